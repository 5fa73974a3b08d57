/- Texts DbgO .. Dbg33: the abstract machine, its laws and contracts of functions: lemmas for the statement. No condition. -/
import Derived.Test.YtddahfmkcpnoaaaGreatP6
namespace Go.Ab
open Go
set_option maxRecDepth 10000
set_option maxHeartbeats 2000000
theorem GPort.plx (x : GPort) : x.enc.pl = true := by simp [GPort.enc, AV.pl, AV.pls]
theorem GPort.cnx (x : GPort) : x.enc.cn = true := by simp [GPort.enc, AV.cn, AV.cns]
theorem GPort.layE (x : GPort) (n : Nat) : lay x.enc n = (.agg [.int .i64 x.Agent, .int .i64 x.Slot], []) := by
  simp [GPort.enc, lay, lays]
theorem GPort.rowsE (x : GPort) : x.enc.rows = 0 := by simp [GPort.enc, AV.rows, AV.rowss]
def GPort.mrk (_x : GPort) (k : Int) : GPort := { Agent := k, Slot := k + 1 }
def GPort.ct (_x : GPort) : Nat := 1 + 1
def GPort.mkV (x : GPort) (_k : Int) : GPort := { Agent := x.Agent, Slot := x.Slot }
def GPort.ctV (_x : GPort) : Nat := 0
theorem GPort.rowsM (x : GPort) (k : Int) : (x.mrk k).enc.rows = x.enc.rows := by simp [GPort.rowsE, GPort.mrk]
theorem GPort.rowsV (x : GPort) (k : Int) : (x.mkV k).enc.rows = x.enc.rows := by simp [GPort.rowsE, GPort.mkV]
theorem GPort.ctle (x : GPort) : x.ct ≤ 16 := by simp [GPort.ct]
theorem GAgent.plx (x : GAgent) : x.enc.pl = true := by simp [GAgent.enc, AV.pl, AV.pls, pls_map (enc := encI) (fun _ => rfl), pls_map GPort.plx]
theorem GAgent.cnx (x : GAgent) : x.enc.cn = true := by simp [GAgent.enc, AV.cn, AV.cns, cns_map (enc := encI) (fun _ => rfl), cns_map GPort.cnx]
theorem GAgent.layE (x : GAgent) (n : Nat) : lay x.enc n = (.agg [.int .i64 x.Kind, .int .i64 x.Level, .int .i64 x.Value, .slice 1 (n) 0 x.Data.length false, .slice 2 (n + AV.rows (.lst 1 (x.Data.map encI) false)) 0 x.Ports.length false], (lay (.lst 1 (x.Data.map encI) false) (n)).2 ++ ((lay (.lst 2 (x.Ports.map GPort.enc) false) (n + AV.rows (.lst 1 (x.Data.map encI) false))).2 ++ [])) := by
  simp [GAgent.enc, lay, lays, lays_len, AV.rows, Nat.add_comm, Nat.add_left_comm]
theorem GAgent.rowsE (x : GAgent) : x.enc.rows = AV.rows (.lst 1 (x.Data.map encI) false) + AV.rows (.lst 2 (x.Ports.map GPort.enc) false) := by simp [GAgent.enc, AV.rows, AV.rowss, Nat.add_assoc]
def GAgent.mrk (x : GAgent) (k : Int) : GAgent := { Kind := k, Level := k + 1, Value := k + 1 + 1, Data := mkL mkI ctI x.Data (k + 1 + 1 + 1), Ports := mkL GPort.mrk GPort.ct x.Ports (k + 1 + 1 + 1 + ((sumN ctI x.Data : Nat) : Int)) }
def GAgent.ct (x : GAgent) : Nat := 1 + 1 + 1 + sumN ctI x.Data + sumN GPort.ct x.Ports
def GAgent.mkV (x : GAgent) (k : Int) : GAgent := { Kind := x.Kind, Level := x.Level, Value := x.Value, Data := mkL mkI ctI x.Data (k), Ports := mkL GPort.mrk GPort.ct x.Ports (k + ((sumN ctI x.Data : Nat) : Int)) }
def GAgent.ctV (x : GAgent) : Nat := sumN ctI x.Data + sumN GPort.ct x.Ports
theorem GAgent.rowsM (x : GAgent) (k : Int) : (x.mrk k).enc.rows = x.enc.rows := by simp [GAgent.rowsE, GAgent.mrk, AV.rows, rowss_mk GPort.mrk GPort.ct (enc := GPort.enc) GPort.rowsM, rowss_mk mkI ctI (enc := encI) (fun _ _ => rfl)]
theorem GAgent.rowsV (x : GAgent) (k : Int) : (x.mkV k).enc.rows = x.enc.rows := by simp [GAgent.rowsE, GAgent.mkV, AV.rows, rowss_mk GPort.mrk GPort.ct (enc := GPort.enc) GPort.rowsM, rowss_mk mkI ctI (enc := encI) (fun _ _ => rfl)]
theorem GAgent.ctle (x : GAgent) : x.ct ≤ 16 + 16 * x.sz := by
  have h0 := sumN_le1 (c := ctI) (fun _ => by simp [ctI]) x.Data
  have h1 := sumN_le1 (c := GPort.ct) (fun y => by have := GPort.ctle y; simpa using this) x.Ports
  simp only [GAgent.ct, GAgent.sz]
  omega
theorem GAgent.ctVle (x : GAgent) : x.ctV ≤ 16 * x.sz := by
  have h0 := sumN_le1 (c := ctI) (fun _ => by simp [ctI]) x.Data
  have h1 := sumN_le1 (c := GPort.ct) (fun y => by have := GPort.ctle y; simpa using this) x.Ports
  simp only [GAgent.ctV, GAgent.sz]
  omega
theorem GNet.plx (x : GNet) : x.enc.pl = true := by simp [GNet.enc, AV.pl, AV.pls, pls_map GAgent.plx]
theorem GNet.cnx (x : GNet) : x.enc.cn = true := by simp [GNet.enc, AV.cn, AV.cns, cns_map GAgent.cnx]
theorem GNet.layE (x : GNet) (n : Nat) : lay x.enc n = (.agg [.slice 5 (n) 0 x.Agents.length false], (lay (.lst 5 (x.Agents.map GAgent.enc) false) (n)).2 ++ []) := by
  simp [GNet.enc, lay, lays]
theorem GNet.rowsE (x : GNet) : x.enc.rows = AV.rows (.lst 5 (x.Agents.map GAgent.enc) false) := by simp [GNet.enc, AV.rows, AV.rowss]
def GNet.mrk (x : GNet) (k : Int) : GNet := { Agents := mkL GAgent.mrk GAgent.ct x.Agents (k) }
def GNet.ct (x : GNet) : Nat := sumN GAgent.ct x.Agents
def GNet.mkV (x : GNet) (k : Int) : GNet := { Agents := mkL GAgent.mrk GAgent.ct x.Agents (k) }
def GNet.ctV (x : GNet) : Nat := sumN GAgent.ct x.Agents
theorem GNet.rowsM (x : GNet) (k : Int) : (x.mrk k).enc.rows = x.enc.rows := by simp [GNet.rowsE, GNet.mrk, AV.rows, rowss_mk GAgent.mrk GAgent.ct (enc := GAgent.enc) GAgent.rowsM]
theorem GNet.rowsV (x : GNet) (k : Int) : (x.mkV k).enc.rows = x.enc.rows := by simp [GNet.rowsE, GNet.mkV, AV.rows, rowss_mk GAgent.mrk GAgent.ct (enc := GAgent.enc) GAgent.rowsM]
theorem GNet.ctle (x : GNet) : x.ct ≤ 16 + 16 * x.sz := by
  have h0 := sumN_le2 (c := GAgent.ct) (z := GAgent.sz) GAgent.ctle x.Agents
  simp only [GNet.ct, GNet.sz]
  omega
theorem GNet.ctVle (x : GNet) : x.ctV ≤ 16 * x.sz := by
  have h0 := sumN_le2 (c := GAgent.ct) (z := GAgent.sz) GAgent.ctle x.Agents
  simp only [GNet.ctV, GNet.sz]
  omega
theorem GOrigin.plx (x : GOrigin) : x.enc.pl = true := by simp [GOrigin.enc, AV.pl, AV.pls]
theorem GOrigin.cnx (x : GOrigin) : x.enc.cn = true := by simp [GOrigin.enc, AV.cn, AV.cns]
theorem GOrigin.layE (x : GOrigin) (n : Nat) : lay x.enc n = (.agg [.int .i64 x.Step, .int .i64 x.Def, .int .i64 x.Source], []) := by
  simp [GOrigin.enc, lay, lays]
theorem GOrigin.rowsE (x : GOrigin) : x.enc.rows = 0 := by simp [GOrigin.enc, AV.rows, AV.rowss]
def GOrigin.mrk (_x : GOrigin) (k : Int) : GOrigin := { Step := k, Def := k + 1, Source := k + 1 + 1 }
def GOrigin.ct (_x : GOrigin) : Nat := 1 + 1 + 1
def GOrigin.mkV (x : GOrigin) (_k : Int) : GOrigin := { Step := x.Step, Def := x.Def, Source := x.Source }
def GOrigin.ctV (_x : GOrigin) : Nat := 0
theorem GOrigin.rowsM (x : GOrigin) (k : Int) : (x.mrk k).enc.rows = x.enc.rows := by simp [GOrigin.rowsE, GOrigin.mrk]
theorem GOrigin.rowsV (x : GOrigin) (k : Int) : (x.mkV k).enc.rows = x.enc.rows := by simp [GOrigin.rowsE, GOrigin.mkV]
theorem GOrigin.ctle (x : GOrigin) : x.ct ≤ 16 := by simp [GOrigin.ct]
theorem GBreak.plx (x : GBreak) : x.enc.pl = true := by simp [GBreak.enc, AV.pl, AV.pls]
theorem GBreak.cnx (x : GBreak) : x.enc.cn = true := by simp [GBreak.enc, AV.cn, AV.cns]
theorem GBreak.layE (x : GBreak) (n : Nat) : lay x.enc n = (.agg [.int .i64 x.Kind, .int .i64 x.Value], []) := by
  simp [GBreak.enc, lay, lays]
theorem GBreak.rowsE (x : GBreak) : x.enc.rows = 0 := by simp [GBreak.enc, AV.rows, AV.rowss]
def GBreak.mrk (_x : GBreak) (k : Int) : GBreak := { Kind := k, Value := k + 1 }
def GBreak.ct (_x : GBreak) : Nat := 1 + 1
def GBreak.mkV (x : GBreak) (_k : Int) : GBreak := { Kind := x.Kind, Value := x.Value }
def GBreak.ctV (_x : GBreak) : Nat := 0
theorem GBreak.rowsM (x : GBreak) (k : Int) : (x.mrk k).enc.rows = x.enc.rows := by simp [GBreak.rowsE, GBreak.mrk]
theorem GBreak.rowsV (x : GBreak) (k : Int) : (x.mkV k).enc.rows = x.enc.rows := by simp [GBreak.rowsE, GBreak.mkV]
theorem GBreak.ctle (x : GBreak) : x.ct ≤ 16 := by simp [GBreak.ct]
theorem GCheckpoint.plx (x : GCheckpoint) : x.enc.pl = true := by simp [GCheckpoint.enc, AV.pl, AV.pls, pls_map GAgent.plx, pls_map GOrigin.plx]
theorem GCheckpoint.cnx (x : GCheckpoint) : x.enc.cn = true := by simp [GCheckpoint.enc, AV.cn, AV.cns, cns_map GAgent.cnx, cns_map GOrigin.cnx]
theorem GCheckpoint.layE (x : GCheckpoint) (n : Nat) : lay x.enc n = (.agg [.int .i64 x.At, .slice 5 (n) 0 x.Net.Agents.length false, .slice 3 (n + AV.rows (.lst 5 (x.Net.Agents.map GAgent.enc) false)) 0 x.Origins.length false], (lay (.lst 5 (x.Net.Agents.map GAgent.enc) false) (n)).2 ++ ((lay (.lst 3 (x.Origins.map GOrigin.enc) false) (n + AV.rows (.lst 5 (x.Net.Agents.map GAgent.enc) false))).2 ++ [])) := by
  simp [GCheckpoint.enc, lay, lays, lays_len, AV.rows, Nat.add_comm, Nat.add_left_comm]
theorem GCheckpoint.rowsE (x : GCheckpoint) : x.enc.rows = AV.rows (.lst 5 (x.Net.Agents.map GAgent.enc) false) + AV.rows (.lst 3 (x.Origins.map GOrigin.enc) false) := by simp [GCheckpoint.enc, AV.rows, AV.rowss, Nat.add_assoc]
def GCheckpoint.mrk (x : GCheckpoint) (k : Int) : GCheckpoint := { At := k, Net := { Agents := mkL GAgent.mrk GAgent.ct x.Net.Agents (k + 1) }, Origins := mkL GOrigin.mrk GOrigin.ct x.Origins (k + 1 + ((sumN GAgent.ct x.Net.Agents : Nat) : Int)) }
def GCheckpoint.ct (x : GCheckpoint) : Nat := 1 + sumN GAgent.ct x.Net.Agents + sumN GOrigin.ct x.Origins
def GCheckpoint.mkV (x : GCheckpoint) (k : Int) : GCheckpoint := { At := x.At, Net := { Agents := mkL GAgent.mrk GAgent.ct x.Net.Agents (k) }, Origins := mkL GOrigin.mrk GOrigin.ct x.Origins (k + ((sumN GAgent.ct x.Net.Agents : Nat) : Int)) }
def GCheckpoint.ctV (x : GCheckpoint) : Nat := sumN GAgent.ct x.Net.Agents + sumN GOrigin.ct x.Origins
theorem GCheckpoint.rowsM (x : GCheckpoint) (k : Int) : (x.mrk k).enc.rows = x.enc.rows := by simp [GCheckpoint.rowsE, GCheckpoint.mrk, AV.rows, rowss_mk GAgent.mrk GAgent.ct (enc := GAgent.enc) GAgent.rowsM, rowss_mk GOrigin.mrk GOrigin.ct (enc := GOrigin.enc) GOrigin.rowsM]
theorem GCheckpoint.rowsV (x : GCheckpoint) (k : Int) : (x.mkV k).enc.rows = x.enc.rows := by simp [GCheckpoint.rowsE, GCheckpoint.mkV, AV.rows, rowss_mk GAgent.mrk GAgent.ct (enc := GAgent.enc) GAgent.rowsM, rowss_mk GOrigin.mrk GOrigin.ct (enc := GOrigin.enc) GOrigin.rowsM]
theorem GCheckpoint.ctle (x : GCheckpoint) : x.ct ≤ 16 + 16 * x.sz := by
  have h0 := sumN_le2 (c := GAgent.ct) (z := GAgent.sz) GAgent.ctle x.Net.Agents
  have h1 := sumN_le1 (c := GOrigin.ct) (fun y => by have := GOrigin.ctle y; simpa using this) x.Origins
  simp only [GCheckpoint.ct, GCheckpoint.sz, GNet.sz]
  omega
theorem GCheckpoint.ctVle (x : GCheckpoint) : x.ctV ≤ 16 * x.sz := by
  have h0 := sumN_le2 (c := GAgent.ct) (z := GAgent.sz) GAgent.ctle x.Net.Agents
  have h1 := sumN_le1 (c := GOrigin.ct) (fun y => by have := GOrigin.ctle y; simpa using this) x.Origins
  simp only [GCheckpoint.ctV, GCheckpoint.sz, GNet.sz]
  omega
theorem GDebugger.plx (x : GDebugger) : x.enc.pl = true := by simp [GDebugger.enc, AV.pl, AV.pls, pls_map (enc := encI) (fun _ => rfl), pls_map GAgent.plx, pls_map GBreak.plx, pls_map GCheckpoint.plx, pls_map GNet.plx, pls_map GOrigin.plx]
theorem GDebugger.cnx (x : GDebugger) : x.enc.cn = true := by simp [GDebugger.enc, AV.cn, AV.cns, cns_map (enc := encI) (fun _ => rfl), cns_map GAgent.cnx, cns_map GBreak.cnx, cns_map GCheckpoint.cnx, cns_map GNet.cnx, cns_map GOrigin.cnx]
theorem GDebugger.layE (x : GDebugger) (n : Nat) : lay x.enc n = (.agg [.slice 1 (n) 0 x.Book.length false, .slice 1 (n + AV.rows (.lst 1 (x.Book.map GNet.enc) false)) 0 x.Schedule.length false, .int .i64 x.Every, .int .i64 x.At, .slice 5 (n + AV.rows (.lst 1 (x.Book.map GNet.enc) false) + AV.rows (.lst 1 (x.Schedule.map encI) false)) 0 x.Net.Agents.length false, .slice 3 (n + AV.rows (.lst 1 (x.Book.map GNet.enc) false) + AV.rows (.lst 1 (x.Schedule.map encI) false) + AV.rows (.lst 5 (x.Net.Agents.map GAgent.enc) false)) 0 x.Origins.length false, .slice 2 (n + AV.rows (.lst 1 (x.Book.map GNet.enc) false) + AV.rows (.lst 1 (x.Schedule.map encI) false) + AV.rows (.lst 5 (x.Net.Agents.map GAgent.enc) false) + AV.rows (.lst 3 (x.Origins.map GOrigin.enc) false)) 0 x.Breaks.length false, .slice 3 (n + AV.rows (.lst 1 (x.Book.map GNet.enc) false) + AV.rows (.lst 1 (x.Schedule.map encI) false) + AV.rows (.lst 5 (x.Net.Agents.map GAgent.enc) false) + AV.rows (.lst 3 (x.Origins.map GOrigin.enc) false) + AV.rows (.lst 2 (x.Breaks.map GBreak.enc) false)) 0 x.Points.length false], (lay (.lst 1 (x.Book.map GNet.enc) false) (n)).2 ++ ((lay (.lst 1 (x.Schedule.map encI) false) (n + AV.rows (.lst 1 (x.Book.map GNet.enc) false))).2 ++ ((lay (.lst 5 (x.Net.Agents.map GAgent.enc) false) (n + AV.rows (.lst 1 (x.Book.map GNet.enc) false) + AV.rows (.lst 1 (x.Schedule.map encI) false))).2 ++ ((lay (.lst 3 (x.Origins.map GOrigin.enc) false) (n + AV.rows (.lst 1 (x.Book.map GNet.enc) false) + AV.rows (.lst 1 (x.Schedule.map encI) false) + AV.rows (.lst 5 (x.Net.Agents.map GAgent.enc) false))).2 ++ ((lay (.lst 2 (x.Breaks.map GBreak.enc) false) (n + AV.rows (.lst 1 (x.Book.map GNet.enc) false) + AV.rows (.lst 1 (x.Schedule.map encI) false) + AV.rows (.lst 5 (x.Net.Agents.map GAgent.enc) false) + AV.rows (.lst 3 (x.Origins.map GOrigin.enc) false))).2 ++ ((lay (.lst 3 (x.Points.map GCheckpoint.enc) false) (n + AV.rows (.lst 1 (x.Book.map GNet.enc) false) + AV.rows (.lst 1 (x.Schedule.map encI) false) + AV.rows (.lst 5 (x.Net.Agents.map GAgent.enc) false) + AV.rows (.lst 3 (x.Origins.map GOrigin.enc) false) + AV.rows (.lst 2 (x.Breaks.map GBreak.enc) false))).2 ++ [])))))) := by
  simp [GDebugger.enc, lay, lays, lays_len, AV.rows, Nat.add_assoc, Nat.add_comm, Nat.add_left_comm]
theorem GDebugger.rowsE (x : GDebugger) : x.enc.rows = AV.rows (.lst 1 (x.Book.map GNet.enc) false) + AV.rows (.lst 1 (x.Schedule.map encI) false) + AV.rows (.lst 5 (x.Net.Agents.map GAgent.enc) false) + AV.rows (.lst 3 (x.Origins.map GOrigin.enc) false) + AV.rows (.lst 2 (x.Breaks.map GBreak.enc) false) + AV.rows (.lst 3 (x.Points.map GCheckpoint.enc) false) := by simp [GDebugger.enc, AV.rows, AV.rowss, Nat.add_assoc]
def GDebugger.mrk (x : GDebugger) (k : Int) : GDebugger := { Book := mkL GNet.mrk GNet.ct x.Book (k), Schedule := mkL mkI ctI x.Schedule (k + ((sumN GNet.ct x.Book : Nat) : Int)), Every := k + ((sumN GNet.ct x.Book : Nat) : Int) + ((sumN ctI x.Schedule : Nat) : Int), At := k + ((sumN GNet.ct x.Book : Nat) : Int) + ((sumN ctI x.Schedule : Nat) : Int) + 1, Net := { Agents := mkL GAgent.mrk GAgent.ct x.Net.Agents (k + ((sumN GNet.ct x.Book : Nat) : Int) + ((sumN ctI x.Schedule : Nat) : Int) + 1 + 1) }, Origins := mkL GOrigin.mrk GOrigin.ct x.Origins (k + ((sumN GNet.ct x.Book : Nat) : Int) + ((sumN ctI x.Schedule : Nat) : Int) + 1 + 1 + ((sumN GAgent.ct x.Net.Agents : Nat) : Int)), Breaks := mkL GBreak.mrk GBreak.ct x.Breaks (k + ((sumN GNet.ct x.Book : Nat) : Int) + ((sumN ctI x.Schedule : Nat) : Int) + 1 + 1 + ((sumN GAgent.ct x.Net.Agents : Nat) : Int) + ((sumN GOrigin.ct x.Origins : Nat) : Int)), Points := mkL GCheckpoint.mrk GCheckpoint.ct x.Points (k + ((sumN GNet.ct x.Book : Nat) : Int) + ((sumN ctI x.Schedule : Nat) : Int) + 1 + 1 + ((sumN GAgent.ct x.Net.Agents : Nat) : Int) + ((sumN GOrigin.ct x.Origins : Nat) : Int) + ((sumN GBreak.ct x.Breaks : Nat) : Int)) }
def GDebugger.ct (x : GDebugger) : Nat := sumN GNet.ct x.Book + sumN ctI x.Schedule + 1 + 1 + sumN GAgent.ct x.Net.Agents + sumN GOrigin.ct x.Origins + sumN GBreak.ct x.Breaks + sumN GCheckpoint.ct x.Points
def GDebugger.mkV (x : GDebugger) (k : Int) : GDebugger := { Book := mkL GNet.mrk GNet.ct x.Book (k), Schedule := mkL mkI ctI x.Schedule (k + ((sumN GNet.ct x.Book : Nat) : Int)), Every := x.Every, At := x.At, Net := { Agents := mkL GAgent.mrk GAgent.ct x.Net.Agents (k + ((sumN GNet.ct x.Book : Nat) : Int) + ((sumN ctI x.Schedule : Nat) : Int)) }, Origins := mkL GOrigin.mrk GOrigin.ct x.Origins (k + ((sumN GNet.ct x.Book : Nat) : Int) + ((sumN ctI x.Schedule : Nat) : Int) + ((sumN GAgent.ct x.Net.Agents : Nat) : Int)), Breaks := mkL GBreak.mrk GBreak.ct x.Breaks (k + ((sumN GNet.ct x.Book : Nat) : Int) + ((sumN ctI x.Schedule : Nat) : Int) + ((sumN GAgent.ct x.Net.Agents : Nat) : Int) + ((sumN GOrigin.ct x.Origins : Nat) : Int)), Points := mkL GCheckpoint.mrk GCheckpoint.ct x.Points (k + ((sumN GNet.ct x.Book : Nat) : Int) + ((sumN ctI x.Schedule : Nat) : Int) + ((sumN GAgent.ct x.Net.Agents : Nat) : Int) + ((sumN GOrigin.ct x.Origins : Nat) : Int) + ((sumN GBreak.ct x.Breaks : Nat) : Int)) }
def GDebugger.ctV (x : GDebugger) : Nat := sumN GNet.ct x.Book + sumN ctI x.Schedule + sumN GAgent.ct x.Net.Agents + sumN GOrigin.ct x.Origins + sumN GBreak.ct x.Breaks + sumN GCheckpoint.ct x.Points
theorem GDebugger.rowsM (x : GDebugger) (k : Int) : (x.mrk k).enc.rows = x.enc.rows := by simp [GDebugger.rowsE, GDebugger.mrk, AV.rows, rowss_mk GAgent.mrk GAgent.ct (enc := GAgent.enc) GAgent.rowsM, rowss_mk GBreak.mrk GBreak.ct (enc := GBreak.enc) GBreak.rowsM, rowss_mk GCheckpoint.mrk GCheckpoint.ct (enc := GCheckpoint.enc) GCheckpoint.rowsM, rowss_mk GNet.mrk GNet.ct (enc := GNet.enc) GNet.rowsM, rowss_mk GOrigin.mrk GOrigin.ct (enc := GOrigin.enc) GOrigin.rowsM, rowss_mk mkI ctI (enc := encI) (fun _ _ => rfl)]
theorem GDebugger.rowsV (x : GDebugger) (k : Int) : (x.mkV k).enc.rows = x.enc.rows := by simp [GDebugger.rowsE, GDebugger.mkV, AV.rows, rowss_mk GAgent.mrk GAgent.ct (enc := GAgent.enc) GAgent.rowsM, rowss_mk GBreak.mrk GBreak.ct (enc := GBreak.enc) GBreak.rowsM, rowss_mk GCheckpoint.mrk GCheckpoint.ct (enc := GCheckpoint.enc) GCheckpoint.rowsM, rowss_mk GNet.mrk GNet.ct (enc := GNet.enc) GNet.rowsM, rowss_mk GOrigin.mrk GOrigin.ct (enc := GOrigin.enc) GOrigin.rowsM, rowss_mk mkI ctI (enc := encI) (fun _ _ => rfl)]
theorem GDebugger.ctle (x : GDebugger) : x.ct ≤ 16 + 16 * x.sz := by
  have h0 := sumN_le2 (c := GNet.ct) (z := GNet.sz) GNet.ctle x.Book
  have h1 := sumN_le1 (c := ctI) (fun _ => by simp [ctI]) x.Schedule
  have h2 := sumN_le2 (c := GAgent.ct) (z := GAgent.sz) GAgent.ctle x.Net.Agents
  have h3 := sumN_le1 (c := GOrigin.ct) (fun y => by have := GOrigin.ctle y; simpa using this) x.Origins
  have h4 := sumN_le1 (c := GBreak.ct) (fun y => by have := GBreak.ctle y; simpa using this) x.Breaks
  have h5 := sumN_le2 (c := GCheckpoint.ct) (z := GCheckpoint.sz) GCheckpoint.ctle x.Points
  simp only [GDebugger.ct, GDebugger.sz, GNet.sz]
  omega
theorem GDebugger.ctVle (x : GDebugger) : x.ctV ≤ 16 * x.sz := by
  have h0 := sumN_le2 (c := GNet.ct) (z := GNet.sz) GNet.ctle x.Book
  have h1 := sumN_le1 (c := ctI) (fun _ => by simp [ctI]) x.Schedule
  have h2 := sumN_le2 (c := GAgent.ct) (z := GAgent.sz) GAgent.ctle x.Net.Agents
  have h3 := sumN_le1 (c := GOrigin.ct) (fun y => by have := GOrigin.ctle y; simpa using this) x.Origins
  have h4 := sumN_le1 (c := GBreak.ct) (fun y => by have := GBreak.ctle y; simpa using this) x.Breaks
  have h5 := sumN_le2 (c := GCheckpoint.ct) (z := GCheckpoint.sz) GCheckpoint.ctle x.Points
  simp only [GDebugger.ctV, GDebugger.sz, GNet.sz]
  omega
theorem n147 (xs : List Int) (hl : xs.length ≤ 1048576) : Fresh Gm 147 [.lst 1 (xs.map encI) false] (.lst 1 (xs.map encI) false) := toS0_fresh g147 xs hl
theorem n1419 (x : GPort) : Fresh Gm 1419 [x.enc] x.enc := by
  refine Fresh.intro [] [] g1419 (by kernel_rfl) rfl (by simp [AV.trees, GPort.tr]) (GPort.plx x) ?_
  simp only [F1419, vparams, go_sem, reduceIte, eq_self]
  refine lbox_ok rfl ?_
  simp only [go_sem, Nat.reduceEqDiff, reduceIte, eq_self]
  refine lst_all rfl rfl ⟨_, rfl⟩ (by decide) ?_
  simp only [go_sem, Nat.reduceEqDiff, reduceIte, eq_self]
  exact finF_at (pre := []) (post := []) (GPort.plx x) (by simp [packed, GPort.layE]) (by simp [GPort.layE])
theorem n1178 (xs : List GPort) (hl : xs.length ≤ 1048576) : Fresh Gm 1178 [.lst 2 (xs.map GPort.enc) false] (.lst 2 (xs.map GPort.enc) false) :=
  toS_fresh GPort.isSh GPort.plx rfl rfl (by simp) g1178 xs (fun x hm => n1419 x) (by omega)
theorem n858 (x : GAgent) (hz : x.sz ≤ 1048576) : Fresh Gm 858 [x.enc] x.enc := by
  refine Fresh.intro [] [] g858 (by kernel_rfl) rfl (by simp [AV.trees, GAgent.tr]) (GAgent.plx x) ?_
  simp only [F858, vparams, go_sem, reduceIte, eq_self]
  refine lbox_ok rfl ?_
  simp only [go_sem, Nat.reduceEqDiff, reduceIte, Bool.not_true, eq_self]
  unfold GAgent.sz at hz
  refine call_fresh (n147 _ (by omega)) ?_
  simp only [go_sem, lay_l1, Nat.reduceEqDiff, reduceIte, Bool.not_true, List.length_nil, eq_self, List.length_map]
  refine call_fresh (n1178 _ (by omega)) ?_
  simp only [go_sem, lay_l1, Nat.reduceEqDiff, reduceIte, eq_self, List.length_map]
  refine lst_all rfl rfl ⟨_, rfl⟩ (by decide) ?_
  simp only [go_sem, Nat.reduceEqDiff, reduceIte, eq_self]
  exact finF_at (pre := []) (post := []) (GAgent.plx x) (by simp [packed, GAgent.layE, lay_len]) (by simp [GAgent.layE, lay_len])
theorem n504 (xs : List GAgent) (hl : xs.length + sumN GAgent.sz xs ≤ 1048576) : Fresh Gm 504 [.lst 5 (xs.map GAgent.enc) false] (.lst 5 (xs.map GAgent.enc) false) :=
  toS_fresh GAgent.isSh GAgent.plx rfl rfl (by simp) g504 xs (fun x hm => n858 x (by have := le_sumN (f := GAgent.sz) hm; omega)) (by omega)
theorem n185 (x : GNet) (hz : x.sz ≤ 1048576) : Fresh Gm 185 [x.enc] x.enc := by
  refine Fresh.intro [] [] g185 (by kernel_rfl) rfl (by simp [AV.trees, GNet.tr]) (GNet.plx x) ?_
  simp only [F185, vparams, go_sem, reduceIte, eq_self]
  refine lbox_ok rfl ?_
  simp only [go_sem, Nat.reduceEqDiff, reduceIte, Bool.not_true, eq_self]
  unfold GNet.sz at hz
  refine call_fresh (n504 _ (by omega)) ?_
  simp only [go_sem, lay_l1, Nat.reduceEqDiff, reduceIte, List.length_nil, eq_self, List.length_map]
  exact finF_at (pre := []) (post := []) (GNet.plx x) (by simp [packed, GNet.layE]) (by simp [GNet.layE])
theorem n184 (xs : List GNet) (hl : xs.length + sumN GNet.sz xs ≤ 1048576) : Fresh Gm 184 [.lst 1 (xs.map GNet.enc) false] (.lst 1 (xs.map GNet.enc) false) :=
  toS_fresh GNet.isSh GNet.plx rfl rfl (by simp) g184 xs (fun x hm => n185 x (by have := le_sumN (f := GNet.sz) hm; omega)) (by omega)
theorem n745 (x : GOrigin) : Fresh Gm 745 [x.enc] x.enc := by
  refine Fresh.intro [] [] g745 (by kernel_rfl) rfl (by simp [AV.trees, GOrigin.tr]) (GOrigin.plx x) ?_
  simp only [F745, vparams, go_sem, reduceIte, eq_self]
  refine lbox_ok rfl ?_
  simp only [go_sem, Nat.reduceEqDiff, reduceIte, eq_self]
  refine lst_all rfl rfl ⟨_, rfl⟩ (by decide) ?_
  simp only [go_sem, Nat.reduceEqDiff, reduceIte, eq_self]
  exact finF_at (pre := []) (post := []) (GOrigin.plx x) (by simp [packed, GOrigin.layE]) (by simp [GOrigin.layE])
theorem n370 (xs : List GOrigin) (hl : xs.length ≤ 1048576) : Fresh Gm 370 [.lst 3 (xs.map GOrigin.enc) false] (.lst 3 (xs.map GOrigin.enc) false) :=
  toS_fresh GOrigin.isSh GOrigin.plx rfl rfl (by simp) g370 xs (fun x hm => n745 x) (by omega)
theorem n134 (x : GBreak) : Fresh Gm 134 [x.enc] x.enc := by
  refine Fresh.intro [] [] g134 (by kernel_rfl) rfl (by simp [AV.trees, GBreak.tr]) (GBreak.plx x) ?_
  simp only [F134, vparams, go_sem, reduceIte, eq_self]
  refine lbox_ok rfl ?_
  simp only [go_sem, Nat.reduceEqDiff, reduceIte, eq_self]
  refine lst_all rfl rfl ⟨_, rfl⟩ (by decide) ?_
  simp only [go_sem, Nat.reduceEqDiff, reduceIte, eq_self]
  exact finF_at (pre := []) (post := []) (GBreak.plx x) (by simp [packed, GBreak.layE]) (by simp [GBreak.layE])
theorem n371 (xs : List GBreak) (hl : xs.length ≤ 1048576) : Fresh Gm 371 [.lst 2 (xs.map GBreak.enc) false] (.lst 2 (xs.map GBreak.enc) false) :=
  toS_fresh GBreak.isSh GBreak.plx rfl rfl (by simp) g371 xs (fun x hm => n134 x) (by omega)
theorem n746 (x : GCheckpoint) (hz : x.sz ≤ 1048576) : Fresh Gm 746 [x.enc] x.enc := by
  refine Fresh.intro [] [] g746 (by kernel_rfl) rfl (by simp [AV.trees, GCheckpoint.tr]) (GCheckpoint.plx x) ?_
  simp only [F746, vparams, go_sem, reduceIte, eq_self]
  refine lbox_ok rfl ?_
  simp only [go_sem, Nat.reduceEqDiff, reduceIte, Bool.not_true, eq_self]
  unfold GCheckpoint.sz at hz
  refine call_fresh (n185 _ (by omega)) ?_
  simp only [go_sem, GNet.layE, Nat.reduceEqDiff, reduceIte, Bool.not_true, List.length_nil, eq_self]
  refine call_fresh (n370 _ (by omega)) ?_
  simp only [go_sem, lay_l1, Nat.reduceEqDiff, reduceIte, eq_self, List.length_map]
  refine lst_all rfl rfl ⟨_, rfl⟩ (by decide) ?_
  simp only [go_sem, Nat.reduceEqDiff, reduceIte, eq_self]
  exact finF_at (pre := []) (post := []) (GCheckpoint.plx x) (by simp [packed, GCheckpoint.layE, lay_len]) (by simp [GCheckpoint.layE, lay_len])
theorem n372 (xs : List GCheckpoint) (hl : xs.length + sumN GCheckpoint.sz xs ≤ 1048576) : Fresh Gm 372 [.lst 3 (xs.map GCheckpoint.enc) false] (.lst 3 (xs.map GCheckpoint.enc) false) :=
  toS_fresh GCheckpoint.isSh GCheckpoint.plx rfl rfl (by simp) g372 xs (fun x hm => n746 x (by have := le_sumN (f := GCheckpoint.sz) hm; omega)) (by omega)
theorem n106 (x : GDebugger) (hz : x.sz ≤ 1048576) : Fresh Gm 106 [x.enc] x.enc := by
  refine Fresh.intro [] [] g106 (by kernel_rfl) rfl (by simp [AV.trees, GDebugger.tr]) (GDebugger.plx x) ?_
  simp only [F106, vparams, go_sem, reduceIte, eq_self]
  refine lbox_ok rfl ?_
  simp only [go_sem, Nat.reduceEqDiff, reduceIte, Bool.not_true, eq_self]
  unfold GDebugger.sz at hz
  refine call_fresh (n184 _ (by omega)) ?_
  simp only [go_sem, lay_l1, Nat.reduceEqDiff, reduceIte, Bool.not_true, List.length_nil, eq_self, List.length_map]
  refine call_fresh (n147 _ (by omega)) ?_
  simp only [go_sem, lay_l1, Nat.reduceEqDiff, reduceIte, Bool.not_true, eq_self, List.length_map]
  refine call_fresh (n185 _ (by omega)) ?_
  simp only [go_sem, GNet.layE, Nat.reduceEqDiff, reduceIte, Bool.not_true, eq_self]
  refine call_fresh (n370 _ (by omega)) ?_
  simp only [go_sem, lay_l1, Nat.reduceEqDiff, reduceIte, Bool.not_true, eq_self, List.length_map]
  refine call_fresh (n371 _ (by omega)) ?_
  simp only [go_sem, lay_l1, Nat.reduceEqDiff, reduceIte, Bool.not_true, eq_self, List.length_map]
  refine call_fresh (n372 _ (by omega)) ?_
  simp only [go_sem, lay_l1, Nat.reduceEqDiff, reduceIte, eq_self, List.length_map]
  refine lst_all rfl rfl ⟨_, rfl⟩ (by decide) ?_
  simp only [go_sem, Nat.reduceEqDiff, reduceIte, eq_self]
  exact finF_at (pre := []) (post := []) (GDebugger.plx x) (by simp [packed, GDebugger.layE, lay_len, Nat.add_assoc]) (by simp [GDebugger.layE, lay_len, Nat.add_assoc])
theorem k90 (xs : List Int) (k : Int) (h0 : 0 ≤ k) (hk : k + (sumN ctI xs : Nat) ≤ 4611686018427387904) (hz : xs.length ≤ 4194304) : Mark Gm 90 (.lst 1 (xs.map encI) false) (.lst 1 ((mkL mkI ctI xs k).map encI) false) k (k + (sumN ctI xs : Nat)) := markI_ok g90 rfl xs k h0 hk hz
theorem k885 (xs : List GPort) (k : Int) (h0 : 0 ≤ k) (hk : k + (sumN GPort.ct xs : Nat) ≤ 4611686018427387904) (hz : xs.length ≤ 4194304) : Mark Gm 885 (.lst 2 (xs.map GPort.enc) false) (.lst 2 ((mkL GPort.mrk GPort.ct xs k).map GPort.enc) false) k (k + (sumN GPort.ct xs : Nat)) := by
  refine Mark.intro g885 (by kernel_rfl) rfl (pls_map GPort.plx xs) (pls_map GPort.plx _) (by simp only [AV.rows, rowss_mk GPort.mrk GPort.ct (enc := GPort.enc) GPort.rowsM]) ?_
  simp only [F885, vparams, lay_l1, go_sem, List.length_map, Nat.zero_add]
  refine Sem.loop (fun i : Nat => i ≤ xs.length) (fun i => (⟨[(0, .slice 2 0 0 xs.length false), (1, .int .i64 (k + ((sumN GPort.ct (xs.take i) : Nat) : Int))), (5, .int .i64 (i : Nat))], [], (lay (.lst 2 ((mkL GPort.mrk GPort.ct (xs.take i) k ++ xs.drop i).map GPort.enc) false) 0).2⟩ : VSt)) (fun i => xs.length - i) 0 (by kernel_rfl) (Nat.zero_le _) (by simp only [List.take_zero, mkL, List.nil_append, List.drop_zero, sumN, Int.ofNat_zero, Int.add_zero]; exact Can.sub (by simp [go_sem]) (by simp [go_sem])) ?_
  intro i hi
  simp only [go_sem, Nat.reduceEqDiff, reduceIte, eq_self]
  refine cnd_split ?_ ?_ <;> intro hc <;> simp only [hc, go_sem, Nat.reduceEqDiff, reduceIte, eq_self]
  · have hlt : i < xs.length := by have := of_decide_eq_true hc; omega
    have hct := sumN_succ GPort.ct hlt
    have hcl := sumN_le GPort.ct xs (i + 1)
    have hrow := GPort.rowsM
    rw [List.drop_eq_getElem_cons hlt, lay_midE]
    obtain ⟨K, hK⟩ : ∃ K : Int, K = k + ((sumN GPort.ct (xs.take i) : Nat) : Int) := ⟨_, rfl⟩
    have hend : k + ((sumN GPort.ct (xs.take (i + 1)) : Nat) : Int) = K + ((GPort.ct xs[i] : Nat) : Int) := by rw [hct, hK]; omega
    have hKb : 0 ≤ K ∧ K + ((GPort.ct xs[i] : Nat) : Int) ≤ 4611686018427387904 := by rw [← hend]; omega
    have hmk : (mkL GPort.mrk GPort.ct (xs.take (i + 1)) k ++ xs.drop (i + 1)) = mkL GPort.mrk GPort.ct (xs.take i) k ++ GPort.mrk xs[i] K :: xs.drop (i + 1) := by rw [mkL_succ GPort.mrk GPort.ct hlt, ← hK, List.append_assoc]; rfl
    have hrx := hrow xs[i] K
    rw [← hK]
    obtain ⟨y, hy⟩ : ∃ y, y = xs[i] := ⟨_, rfl⟩
    rw [← hy] at hmk hend hKb hrx ⊢
    have hcy : GPort.ct y = 1 + 1 := rfl
    rw [hcy] at hend hKb
    have hA : (lays ((mkL GPort.mrk GPort.ct (xs.take i) k).map GPort.enc) 1).1.length = i := by rw [lays_length, List.length_map, mkL_length]; simp; omega
    have hoA := lays_len ((mkL GPort.mrk GPort.ct (xs.take i) k).map GPort.enc) 1
    have e2 := lay_midE (enc := GPort.enc) (w := 2) (c := false) (A := mkL GPort.mrk GPort.ct (xs.take i) k) (B := xs.drop (i + 1)) (z := GPort.mrk y K)
    rw [hrx] at e2
    rw [GPort.layE] at e2 ⊢
    obtain ⟨p, hp⟩ : ∃ p, p = 1 + AV.rowss ((mkL GPort.mrk GPort.ct (xs.take i) k).map GPort.enc) := ⟨_, rfl⟩
    rw [← hp] at e2 ⊢
    generalize (lays ((xs.drop (i + 1)).map GPort.enc) (p + y.enc.rows)).1 = vB at e2 ⊢
    generalize (lays ((xs.drop (i + 1)).map GPort.enc) (p + y.enc.rows)).2 = oB at e2 ⊢
    generalize (lays ((mkL GPort.mrk GPort.ct (xs.take i) k).map GPort.enc) 1).1 = vA at e2 hA ⊢
    generalize (lays ((mkL GPort.mrk GPort.ct (xs.take i) k).map GPort.enc) 1).2 = oA at e2 hoA ⊢
    simp only [idx_s hlt, go_sem, Nat.reduceEqDiff, reduceIte, eq_self, Nat.zero_add]
    refine sto_ok (e' := .agg [.int .i64 (K), .int .i64 y.Slot]) (by rfl) (by rfl) (mid_at hA) (by rfl) ?_
    simp only [mid_set hA, idx_s hlt, List.set_cons_zero, go_sem, Nat.reduceEqDiff, reduceIte, eq_self, Nat.zero_add]
    rw [wrap_small (n := K + 1) (by omega) (by omega)]
    try simp only [mid_at hA, mid_set hA, idx_s hlt, List.set_cons_zero, go_sem, Nat.reduceEqDiff, reduceIte, Bool.not_true, Bool.not_false, Bool.false_eq_true, List.length_cons, List.length_nil, Nat.reduceAdd, List.getElem?_cons_zero, List.getElem?_cons_succ, decide_true, eq_self, List.length_map, Nat.zero_add]
    refine sto_ok (e' := .agg [.int .i64 (K), .int .i64 (K + 1)]) (by rfl) (by rfl) (mid_at hA) (by rfl) ?_
    simp only [mid_set hA, List.set_cons_zero, go_sem, Nat.reduceEqDiff, reduceIte, eq_self]
    rw [wrap_small (n := K + 1 + 1) (by omega) (by omega)]
    simp only [wrap_succ (show i < 4611686018427387904 by omega)]
    refine loopQ_nrm (i + 1) (by omega) (by omega) ?_
    have e3 : K + 1 + 1 = k + ((sumN GPort.ct (xs.take (i + 1)) : Nat) : Int) := by first | (rw [hend]; done) | (rw [hend]; omega)
    rw [e3]
    rw [hmk, e2]
    simp only [GPort.mrk, AV.rows, List.nil_append]
    exact Can.sub (by simp [go_sem]) (by simp [go_sem])
  · have hge : i = xs.length := by have := of_decide_eq_false hc; omega
    subst hge
    refine finM_ok (by rw [List.take_length]) ?_
    rw [List.take_length, List.drop_length, List.append_nil]
theorem k524 (xs : List GAgent) (k : Int) (h0 : 0 ≤ k) (hk : k + (sumN GAgent.ct xs : Nat) ≤ 4611686018427387904) (hz : xs.length + sumN GAgent.sz xs ≤ 4194304) : Mark Gm 524 (.lst 5 (xs.map GAgent.enc) false) (.lst 5 ((mkL GAgent.mrk GAgent.ct xs k).map GAgent.enc) false) k (k + (sumN GAgent.ct xs : Nat)) := by
  refine Mark.intro g524 (by kernel_rfl) rfl (pls_map GAgent.plx xs) (pls_map GAgent.plx _) (by simp only [AV.rows, rowss_mk GAgent.mrk GAgent.ct (enc := GAgent.enc) GAgent.rowsM]) ?_
  simp only [F524, vparams, lay_l1, go_sem, List.length_map, Nat.zero_add]
  refine Sem.loop (fun i : Nat => i ≤ xs.length) (fun i => (⟨[(0, .slice 5 0 0 xs.length false), (1, .int .i64 (k + ((sumN GAgent.ct (xs.take i) : Nat) : Int))), (5, .int .i64 (i : Nat))], [], (lay (.lst 5 ((mkL GAgent.mrk GAgent.ct (xs.take i) k ++ xs.drop i).map GAgent.enc) false) 0).2⟩ : VSt)) (fun i => xs.length - i) 0 (by kernel_rfl) (Nat.zero_le _) (by simp only [List.take_zero, mkL, List.nil_append, List.drop_zero, sumN, Int.ofNat_zero, Int.add_zero]; exact Can.sub (by simp [go_sem]) (by simp [go_sem])) ?_
  intro i hi
  simp only [go_sem, Nat.reduceEqDiff, reduceIte, eq_self]
  refine cnd_split ?_ ?_ <;> intro hc <;> simp only [hc, go_sem, Nat.reduceEqDiff, reduceIte, eq_self]
  · have hlt : i < xs.length := by have := of_decide_eq_true hc; omega
    have hct := sumN_succ GAgent.ct hlt
    have hcl := sumN_le GAgent.ct xs (i + 1)
    have hrow := GAgent.rowsM
    rw [List.drop_eq_getElem_cons hlt, lay_midE]
    have hsz : GAgent.sz xs[i] ≤ sumN GAgent.sz xs := le_sumN (f := GAgent.sz) (List.getElem_mem hlt)
    obtain ⟨K, hK⟩ : ∃ K : Int, K = k + ((sumN GAgent.ct (xs.take i) : Nat) : Int) := ⟨_, rfl⟩
    have hend : k + ((sumN GAgent.ct (xs.take (i + 1)) : Nat) : Int) = K + ((GAgent.ct xs[i] : Nat) : Int) := by rw [hct, hK]; omega
    have hKb : 0 ≤ K ∧ K + ((GAgent.ct xs[i] : Nat) : Int) ≤ 4611686018427387904 := by rw [← hend]; omega
    have hmk : (mkL GAgent.mrk GAgent.ct (xs.take (i + 1)) k ++ xs.drop (i + 1)) = mkL GAgent.mrk GAgent.ct (xs.take i) k ++ GAgent.mrk xs[i] K :: xs.drop (i + 1) := by rw [mkL_succ GAgent.mrk GAgent.ct hlt, ← hK, List.append_assoc]; rfl
    have hrx := hrow xs[i] K
    rw [← hK]
    obtain ⟨y, hy⟩ : ∃ y, y = xs[i] := ⟨_, rfl⟩
    rw [← hy] at hmk hend hKb hrx hsz ⊢
    have hcy : GAgent.ct y = 1 + 1 + 1 + sumN ctI y.Data + sumN GPort.ct y.Ports := rfl
    rw [hcy] at hend hKb
    simp only [GAgent.sz] at hsz
    have hA : (lays ((mkL GAgent.mrk GAgent.ct (xs.take i) k).map GAgent.enc) 1).1.length = i := by rw [lays_length, List.length_map, mkL_length]; simp; omega
    have hoA := lays_len ((mkL GAgent.mrk GAgent.ct (xs.take i) k).map GAgent.enc) 1
    have e2 := lay_midE (enc := GAgent.enc) (w := 5) (c := false) (A := mkL GAgent.mrk GAgent.ct (xs.take i) k) (B := xs.drop (i + 1)) (z := GAgent.mrk y K)
    rw [hrx] at e2
    rw [GAgent.layE] at e2 ⊢
    obtain ⟨p, hp⟩ : ∃ p, p = 1 + AV.rowss ((mkL GAgent.mrk GAgent.ct (xs.take i) k).map GAgent.enc) := ⟨_, rfl⟩
    rw [← hp] at e2 ⊢
    generalize (lays ((xs.drop (i + 1)).map GAgent.enc) (p + y.enc.rows)).1 = vB at e2 ⊢
    generalize (lays ((xs.drop (i + 1)).map GAgent.enc) (p + y.enc.rows)).2 = oB at e2 ⊢
    generalize (lays ((mkL GAgent.mrk GAgent.ct (xs.take i) k).map GAgent.enc) 1).1 = vA at e2 hA ⊢
    generalize (lays ((mkL GAgent.mrk GAgent.ct (xs.take i) k).map GAgent.enc) 1).2 = oA at e2 hoA ⊢
    simp only [idx_s hlt, go_sem, Nat.reduceEqDiff, reduceIte, eq_self, Nat.zero_add]
    refine sto_ok (e' := .agg [.int .i64 (K), .int .i64 y.Level, .int .i64 y.Value, .slice 1 (p) 0 y.Data.length false, .slice 2 (p + AV.rows (.lst 1 (y.Data.map encI) false)) 0 y.Ports.length false]) (by rfl) (by rfl) (mid_at hA) (by rfl) ?_
    simp only [mid_set hA, idx_s hlt, List.set_cons_zero, go_sem, Nat.reduceEqDiff, reduceIte, eq_self, Nat.zero_add]
    rw [wrap_small (n := K + 1) (by omega) (by omega)]
    try simp only [mid_at hA, mid_set hA, idx_s hlt, List.set_cons_zero, go_sem, Nat.reduceEqDiff, reduceIte, Bool.not_true, Bool.not_false, Bool.false_eq_true, List.length_cons, List.length_nil, Nat.reduceAdd, List.getElem?_cons_zero, List.getElem?_cons_succ, decide_true, eq_self, List.length_map, Nat.zero_add]
    refine sto_ok (e' := .agg [.int .i64 (K), .int .i64 (K + 1), .int .i64 y.Value, .slice 1 (p) 0 y.Data.length false, .slice 2 (p + AV.rows (.lst 1 (y.Data.map encI) false)) 0 y.Ports.length false]) (by rfl) (by rfl) (mid_at hA) (by rfl) ?_
    simp only [mid_set hA, idx_s hlt, List.set_cons_zero, go_sem, Nat.reduceEqDiff, reduceIte, eq_self, Nat.zero_add]
    rw [wrap_small (n := K + 1 + 1) (by omega) (by omega)]
    try simp only [mid_at hA, mid_set hA, idx_s hlt, List.set_cons_zero, go_sem, Nat.reduceEqDiff, reduceIte, Bool.not_true, Bool.not_false, Bool.false_eq_true, List.length_cons, List.length_nil, Nat.reduceAdd, List.getElem?_cons_zero, List.getElem?_cons_succ, decide_true, eq_self, List.length_map, Nat.zero_add]
    refine sto_ok (e' := .agg [.int .i64 (K), .int .i64 (K + 1), .int .i64 (K + 1 + 1), .slice 1 (p) 0 y.Data.length false, .slice 2 (p + AV.rows (.lst 1 (y.Data.map encI) false)) 0 y.Ports.length false]) (by rfl) (by rfl) (mid_at hA) (by rfl) ?_
    simp only [mid_at hA, mid_set hA, idx_s hlt, List.set_cons_zero, go_sem, Nat.reduceEqDiff, reduceIte, Bool.not_true, List.getElem?_cons_zero, List.getElem?_cons_succ, eq_self, Nat.zero_add]
    rw [wrap_small (n := K + 1 + 1 + 1) (by omega) (by omega)]
    try simp only [mid_at hA, mid_set hA, idx_s hlt, List.set_cons_zero, go_sem, Nat.reduceEqDiff, reduceIte, Bool.not_true, Bool.not_false, Bool.false_eq_true, List.length_cons, List.length_nil, Nat.reduceAdd, List.getElem?_cons_zero, List.getElem?_cons_succ, decide_true, eq_self, List.length_map, Nat.zero_add]
    refine call_markn (n := p) (pre := .row 5 (vA ++ .agg [.int .i64 (K), .int .i64 (K + 1), .int .i64 (K + 1 + 1), .slice 1 (p) 0 y.Data.length false, .slice 2 (p + AV.rows (.lst 1 (y.Data.map encI) false)) 0 y.Ports.length false] :: vB) true :: (oA ++ [])) (post := ((lay (.lst 2 (y.Ports.map GPort.enc) false) (p + AV.rows (.lst 1 (y.Data.map encI) false))).2 ++ []) ++ oB) (t := (.lst 1 (y.Data.map encI) false)) (t' := (.lst 1 ((mkL mkI ctI y.Data (K + 1 + 1 + 1)).map encI) false)) (k90 y.Data (K + 1 + 1 + 1) (by omega) (by omega) (by omega)) ?_ ?_ (by rw [lay_l1, List.length_map]) ?_
    · first | rfl | (simp only [List.length_cons, List.length_append, List.length_nil, hoA, AV.rows]; done) | (simp only [List.length_cons, List.length_append, List.length_nil, hoA, AV.rows]; omega)
    · first | rfl | (simp only [List.append_assoc, List.append_nil, List.cons_append]; done)
    simp only [mid_at hA, idx_s hlt, List.cons_append, go_sem, Nat.reduceEqDiff, reduceIte, Bool.not_true, List.getElem?_cons_zero, List.getElem?_cons_succ, eq_self, Nat.zero_add]
    refine call_markn (n := p + AV.rows (.lst 1 (y.Data.map encI) false)) (pre := .row 5 (vA ++ .agg [.int .i64 (K), .int .i64 (K + 1), .int .i64 (K + 1 + 1), .slice 1 (p) 0 y.Data.length false, .slice 2 (p + AV.rows (.lst 1 (y.Data.map encI) false)) 0 y.Ports.length false] :: vB) true :: (oA ++ ((lay (.lst 1 ((mkL mkI ctI y.Data (K + 1 + 1 + 1)).map encI) false) (p)).2))) (post := ([]) ++ oB) (t := (.lst 2 (y.Ports.map GPort.enc) false)) (t' := (.lst 2 ((mkL GPort.mrk GPort.ct y.Ports (K + 1 + 1 + 1 + ((sumN ctI y.Data : Nat) : Int))).map GPort.enc) false)) (k885 y.Ports (K + 1 + 1 + 1 + ((sumN ctI y.Data : Nat) : Int)) (by omega) (by omega) (by omega)) ?_ ?_ (by rw [lay_l1, List.length_map]) ?_
    · first | rfl | (simp only [List.length_cons, List.length_append, hoA, lay_len, AV.rows, rowss_mk mkI ctI (enc := encI) (fun _ _ => rfl)]; done) | (simp only [List.length_cons, List.length_append, hoA, lay_len, AV.rows, rowss_mk mkI ctI (enc := encI) (fun _ _ => rfl)]; omega)
    · first | rfl | (simp only [List.append_assoc, List.nil_append, List.append_nil, List.cons_append]; done)
    simp only [List.cons_append, go_sem, Nat.reduceEqDiff, reduceIte, eq_self]
    simp only [wrap_succ (show i < 4611686018427387904 by omega)]
    refine loopQ_nrm (i + 1) (by omega) (by omega) ?_
    have e3 : K + 1 + 1 + 1 + ((sumN ctI y.Data : Nat) : Int) + ((sumN GPort.ct y.Ports : Nat) : Int) = k + ((sumN GAgent.ct (xs.take (i + 1)) : Nat) : Int) := by first | (rw [hend]; done) | (rw [hend]; omega)
    rw [e3]
    rw [hmk, e2]
    simp only [GAgent.mrk, mkL_length, AV.rows, List.append_assoc, List.nil_append, List.append_nil, rowss_mk mkI ctI (enc := encI) (fun _ _ => rfl)]
    exact Can.sub (by simp [go_sem]) (by simp [go_sem])
  · have hge : i = xs.length := by have := of_decide_eq_false hc; omega
    subst hge
    refine finM_ok (by rw [List.take_length]) ?_
    rw [List.take_length, List.drop_length, List.append_nil]
theorem k198 (x : GNet) (k : Int) (h0 : 0 ≤ k) (hk : k + (x.ctV : Nat) ≤ 4611686018427387904) (hz : x.sz ≤ 4194304) : Mark Gm 198 x.enc (x.mkV k).enc k (k + (x.ctV : Nat)) := by
  refine Mark.intro g198 (by kernel_rfl) rfl (GNet.plx x) (GNet.plx _) (GNet.rowsV x k) ?_
  rw [GNet.layE, GNet.layE]
  simp only [F198, vparams, go_sem, Nat.reduceEqDiff, reduceIte, eq_self, Nat.zero_add]
  refine lbox_ok rfl ?_
  simp only [go_sem, Nat.reduceEqDiff, reduceIte, Bool.not_true, List.getElem?_cons_zero, eq_self]
  unfold GNet.ctV at hk
  simp only [GNet.sz] at hz
  refine call_markn (n := 0) (pre := []) (post := []) (t := (.lst 5 (x.Agents.map GAgent.enc) false)) (t' := (.lst 5 ((mkL GAgent.mrk GAgent.ct x.Agents (k)).map GAgent.enc) false)) (k524 x.Agents (k) (by omega) (by omega) (by omega)) ?_ ?_ (by rw [lay_l1, List.length_map]) ?_
  · first | rfl | (simp only [List.length_append, List.length_nil, lay_len, AV.rows, rowss_mk GAgent.mrk GAgent.ct (enc := GAgent.enc) GAgent.rowsM]; done) | (simp only [List.length_append, List.length_nil, lay_len, AV.rows, rowss_mk GAgent.mrk GAgent.ct (enc := GAgent.enc) GAgent.rowsM]; omega)
  · first | rfl | (simp only [List.append_assoc, List.nil_append, List.append_nil]; done)
  simp only [List.nil_append, List.append_nil, go_sem, Nat.reduceEqDiff, reduceIte, eq_self]
  refine finM_ok (by first | rfl | (simp only [GNet.ctV]; done) | (simp only [GNet.ctV]; omega)) ?_
  simp only [GNet.mkV]
theorem k225 (xs : List GNet) (k : Int) (h0 : 0 ≤ k) (hk : k + (sumN GNet.ct xs : Nat) ≤ 4611686018427387904) (hz : xs.length + sumN GNet.sz xs ≤ 4194304) : Mark Gm 225 (.lst 1 (xs.map GNet.enc) false) (.lst 1 ((mkL GNet.mrk GNet.ct xs k).map GNet.enc) false) k (k + (sumN GNet.ct xs : Nat)) := by
  refine Mark.intro g225 (by kernel_rfl) rfl (pls_map GNet.plx xs) (pls_map GNet.plx _) (by simp only [AV.rows, rowss_mk GNet.mrk GNet.ct (enc := GNet.enc) GNet.rowsM]) ?_
  simp only [F225, vparams, lay_l1, go_sem, List.length_map, Nat.zero_add]
  refine Sem.loop (fun i : Nat => i ≤ xs.length) (fun i => (⟨[(0, .slice 1 0 0 xs.length false), (1, .int .i64 (k + ((sumN GNet.ct (xs.take i) : Nat) : Int))), (5, .int .i64 (i : Nat))], [], (lay (.lst 1 ((mkL GNet.mrk GNet.ct (xs.take i) k ++ xs.drop i).map GNet.enc) false) 0).2⟩ : VSt)) (fun i => xs.length - i) 0 (by kernel_rfl) (Nat.zero_le _) (by simp only [List.take_zero, mkL, List.nil_append, List.drop_zero, sumN, Int.ofNat_zero, Int.add_zero]; exact Can.sub (by simp [go_sem]) (by simp [go_sem])) ?_
  intro i hi
  simp only [go_sem, Nat.reduceEqDiff, reduceIte, eq_self]
  refine cnd_split ?_ ?_ <;> intro hc <;> simp only [hc, go_sem, Nat.reduceEqDiff, reduceIte, eq_self]
  · have hlt : i < xs.length := by have := of_decide_eq_true hc; omega
    have hct := sumN_succ GNet.ct hlt
    have hcl := sumN_le GNet.ct xs (i + 1)
    have hrow := GNet.rowsM
    rw [List.drop_eq_getElem_cons hlt, lay_midE]
    have hsz : GNet.sz xs[i] ≤ sumN GNet.sz xs := le_sumN (f := GNet.sz) (List.getElem_mem hlt)
    obtain ⟨K, hK⟩ : ∃ K : Int, K = k + ((sumN GNet.ct (xs.take i) : Nat) : Int) := ⟨_, rfl⟩
    have hend : k + ((sumN GNet.ct (xs.take (i + 1)) : Nat) : Int) = K + ((GNet.ct xs[i] : Nat) : Int) := by rw [hct, hK]; omega
    have hKb : 0 ≤ K ∧ K + ((GNet.ct xs[i] : Nat) : Int) ≤ 4611686018427387904 := by rw [← hend]; omega
    have hmk : (mkL GNet.mrk GNet.ct (xs.take (i + 1)) k ++ xs.drop (i + 1)) = mkL GNet.mrk GNet.ct (xs.take i) k ++ GNet.mrk xs[i] K :: xs.drop (i + 1) := by rw [mkL_succ GNet.mrk GNet.ct hlt, ← hK, List.append_assoc]; rfl
    have hrx := hrow xs[i] K
    rw [← hK]
    obtain ⟨y, hy⟩ : ∃ y, y = xs[i] := ⟨_, rfl⟩
    rw [← hy] at hmk hend hKb hrx hsz ⊢
    have hcy : GNet.ct y = sumN GAgent.ct y.Agents := rfl
    rw [hcy] at hend hKb
    simp only [GNet.sz] at hsz
    have hA : (lays ((mkL GNet.mrk GNet.ct (xs.take i) k).map GNet.enc) 1).1.length = i := by rw [lays_length, List.length_map, mkL_length]; simp; omega
    have hoA := lays_len ((mkL GNet.mrk GNet.ct (xs.take i) k).map GNet.enc) 1
    have e2 := lay_midE (enc := GNet.enc) (w := 1) (c := false) (A := mkL GNet.mrk GNet.ct (xs.take i) k) (B := xs.drop (i + 1)) (z := GNet.mrk y K)
    rw [hrx] at e2
    rw [GNet.layE] at e2 ⊢
    obtain ⟨p, hp⟩ : ∃ p, p = 1 + AV.rowss ((mkL GNet.mrk GNet.ct (xs.take i) k).map GNet.enc) := ⟨_, rfl⟩
    rw [← hp] at e2 ⊢
    generalize (lays ((xs.drop (i + 1)).map GNet.enc) (p + y.enc.rows)).1 = vB at e2 ⊢
    generalize (lays ((xs.drop (i + 1)).map GNet.enc) (p + y.enc.rows)).2 = oB at e2 ⊢
    generalize (lays ((mkL GNet.mrk GNet.ct (xs.take i) k).map GNet.enc) 1).1 = vA at e2 hA ⊢
    generalize (lays ((mkL GNet.mrk GNet.ct (xs.take i) k).map GNet.enc) 1).2 = oA at e2 hoA ⊢
    simp only [mid_at hA, idx_s hlt, go_sem, Nat.reduceEqDiff, reduceIte, Bool.not_true, List.getElem?_cons_zero, eq_self, Nat.zero_add]
    refine call_markn (n := p) (pre := .row 1 (vA ++ .agg [.slice 5 (p) 0 y.Agents.length false] :: vB) true :: (oA ++ [])) (post := ([]) ++ oB) (t := (.lst 5 (y.Agents.map GAgent.enc) false)) (t' := (.lst 5 ((mkL GAgent.mrk GAgent.ct y.Agents (K)).map GAgent.enc) false)) (k524 y.Agents (K) (by omega) (by omega) (by omega)) ?_ ?_ (by rw [lay_l1, List.length_map]) ?_
    · first | rfl | (simp only [List.length_cons, List.length_append, List.length_nil, hoA]; done) | (simp only [List.length_cons, List.length_append, List.length_nil, hoA]; omega)
    · first | rfl | (simp only [List.nil_append, List.append_nil, List.cons_append]; done)
    simp only [List.cons_append, go_sem, Nat.reduceEqDiff, reduceIte, eq_self]
    simp only [wrap_succ (show i < 4611686018427387904 by omega)]
    refine loopQ_nrm (i + 1) (by omega) (by omega) ?_
    have e3 : K + ((sumN GAgent.ct y.Agents : Nat) : Int) = k + ((sumN GNet.ct (xs.take (i + 1)) : Nat) : Int) := by first | (rw [hend]; done) | (rw [hend]; omega)
    rw [e3]
    rw [hmk, e2]
    simp only [GNet.mrk, mkL_length, AV.rows, List.nil_append, List.append_nil]
    exact Can.sub (by simp [go_sem]) (by simp [go_sem])
  · have hge : i = xs.length := by have := of_decide_eq_false hc; omega
    subst hge
    refine finM_ok (by rw [List.take_length]) ?_
    rw [List.take_length, List.drop_length, List.append_nil]
theorem k430 (xs : List GOrigin) (k : Int) (h0 : 0 ≤ k) (hk : k + (sumN GOrigin.ct xs : Nat) ≤ 4611686018427387904) (hz : xs.length ≤ 4194304) : Mark Gm 430 (.lst 3 (xs.map GOrigin.enc) false) (.lst 3 ((mkL GOrigin.mrk GOrigin.ct xs k).map GOrigin.enc) false) k (k + (sumN GOrigin.ct xs : Nat)) := by
  refine Mark.intro g430 (by kernel_rfl) rfl (pls_map GOrigin.plx xs) (pls_map GOrigin.plx _) (by simp only [AV.rows, rowss_mk GOrigin.mrk GOrigin.ct (enc := GOrigin.enc) GOrigin.rowsM]) ?_
  simp only [F430, vparams, lay_l1, go_sem, List.length_map, Nat.zero_add]
  refine Sem.loop (fun i : Nat => i ≤ xs.length) (fun i => (⟨[(0, .slice 3 0 0 xs.length false), (1, .int .i64 (k + ((sumN GOrigin.ct (xs.take i) : Nat) : Int))), (5, .int .i64 (i : Nat))], [], (lay (.lst 3 ((mkL GOrigin.mrk GOrigin.ct (xs.take i) k ++ xs.drop i).map GOrigin.enc) false) 0).2⟩ : VSt)) (fun i => xs.length - i) 0 (by kernel_rfl) (Nat.zero_le _) (by simp only [List.take_zero, mkL, List.nil_append, List.drop_zero, sumN, Int.ofNat_zero, Int.add_zero]; exact Can.sub (by simp [go_sem]) (by simp [go_sem])) ?_
  intro i hi
  simp only [go_sem, Nat.reduceEqDiff, reduceIte, eq_self]
  refine cnd_split ?_ ?_ <;> intro hc <;> simp only [hc, go_sem, Nat.reduceEqDiff, reduceIte, eq_self]
  · have hlt : i < xs.length := by have := of_decide_eq_true hc; omega
    have hct := sumN_succ GOrigin.ct hlt
    have hcl := sumN_le GOrigin.ct xs (i + 1)
    have hrow := GOrigin.rowsM
    rw [List.drop_eq_getElem_cons hlt, lay_midE]
    obtain ⟨K, hK⟩ : ∃ K : Int, K = k + ((sumN GOrigin.ct (xs.take i) : Nat) : Int) := ⟨_, rfl⟩
    have hend : k + ((sumN GOrigin.ct (xs.take (i + 1)) : Nat) : Int) = K + ((GOrigin.ct xs[i] : Nat) : Int) := by rw [hct, hK]; omega
    have hKb : 0 ≤ K ∧ K + ((GOrigin.ct xs[i] : Nat) : Int) ≤ 4611686018427387904 := by rw [← hend]; omega
    have hmk : (mkL GOrigin.mrk GOrigin.ct (xs.take (i + 1)) k ++ xs.drop (i + 1)) = mkL GOrigin.mrk GOrigin.ct (xs.take i) k ++ GOrigin.mrk xs[i] K :: xs.drop (i + 1) := by rw [mkL_succ GOrigin.mrk GOrigin.ct hlt, ← hK, List.append_assoc]; rfl
    have hrx := hrow xs[i] K
    rw [← hK]
    obtain ⟨y, hy⟩ : ∃ y, y = xs[i] := ⟨_, rfl⟩
    rw [← hy] at hmk hend hKb hrx ⊢
    have hcy : GOrigin.ct y = 1 + 1 + 1 := rfl
    rw [hcy] at hend hKb
    have hA : (lays ((mkL GOrigin.mrk GOrigin.ct (xs.take i) k).map GOrigin.enc) 1).1.length = i := by rw [lays_length, List.length_map, mkL_length]; simp; omega
    have hoA := lays_len ((mkL GOrigin.mrk GOrigin.ct (xs.take i) k).map GOrigin.enc) 1
    have e2 := lay_midE (enc := GOrigin.enc) (w := 3) (c := false) (A := mkL GOrigin.mrk GOrigin.ct (xs.take i) k) (B := xs.drop (i + 1)) (z := GOrigin.mrk y K)
    rw [hrx] at e2
    rw [GOrigin.layE] at e2 ⊢
    obtain ⟨p, hp⟩ : ∃ p, p = 1 + AV.rowss ((mkL GOrigin.mrk GOrigin.ct (xs.take i) k).map GOrigin.enc) := ⟨_, rfl⟩
    rw [← hp] at e2 ⊢
    generalize (lays ((xs.drop (i + 1)).map GOrigin.enc) (p + y.enc.rows)).1 = vB at e2 ⊢
    generalize (lays ((xs.drop (i + 1)).map GOrigin.enc) (p + y.enc.rows)).2 = oB at e2 ⊢
    generalize (lays ((mkL GOrigin.mrk GOrigin.ct (xs.take i) k).map GOrigin.enc) 1).1 = vA at e2 hA ⊢
    generalize (lays ((mkL GOrigin.mrk GOrigin.ct (xs.take i) k).map GOrigin.enc) 1).2 = oA at e2 hoA ⊢
    simp only [idx_s hlt, go_sem, Nat.reduceEqDiff, reduceIte, eq_self, Nat.zero_add]
    refine sto_ok (e' := .agg [.int .i64 (K), .int .i64 y.Def, .int .i64 y.Source]) (by rfl) (by rfl) (mid_at hA) (by rfl) ?_
    simp only [mid_set hA, idx_s hlt, List.set_cons_zero, go_sem, Nat.reduceEqDiff, reduceIte, eq_self, Nat.zero_add]
    rw [wrap_small (n := K + 1) (by omega) (by omega)]
    try simp only [mid_at hA, mid_set hA, idx_s hlt, List.set_cons_zero, go_sem, Nat.reduceEqDiff, reduceIte, Bool.not_true, Bool.not_false, Bool.false_eq_true, List.length_cons, List.length_nil, Nat.reduceAdd, List.getElem?_cons_zero, List.getElem?_cons_succ, decide_true, eq_self, List.length_map, Nat.zero_add]
    refine sto_ok (e' := .agg [.int .i64 (K), .int .i64 (K + 1), .int .i64 y.Source]) (by rfl) (by rfl) (mid_at hA) (by rfl) ?_
    simp only [mid_set hA, idx_s hlt, List.set_cons_zero, go_sem, Nat.reduceEqDiff, reduceIte, eq_self, Nat.zero_add]
    rw [wrap_small (n := K + 1 + 1) (by omega) (by omega)]
    try simp only [mid_at hA, mid_set hA, idx_s hlt, List.set_cons_zero, go_sem, Nat.reduceEqDiff, reduceIte, Bool.not_true, Bool.not_false, Bool.false_eq_true, List.length_cons, List.length_nil, Nat.reduceAdd, List.getElem?_cons_zero, List.getElem?_cons_succ, decide_true, eq_self, List.length_map, Nat.zero_add]
    refine sto_ok (e' := .agg [.int .i64 (K), .int .i64 (K + 1), .int .i64 (K + 1 + 1)]) (by rfl) (by rfl) (mid_at hA) (by rfl) ?_
    simp only [mid_set hA, List.set_cons_zero, go_sem, Nat.reduceEqDiff, reduceIte, eq_self]
    rw [wrap_small (n := K + 1 + 1 + 1) (by omega) (by omega)]
    simp only [wrap_succ (show i < 4611686018427387904 by omega)]
    refine loopQ_nrm (i + 1) (by omega) (by omega) ?_
    have e3 : K + 1 + 1 + 1 = k + ((sumN GOrigin.ct (xs.take (i + 1)) : Nat) : Int) := by first | (rw [hend]; done) | (rw [hend]; omega)
    rw [e3]
    rw [hmk, e2]
    simp only [GOrigin.mrk, AV.rows, List.nil_append]
    exact Can.sub (by simp [go_sem]) (by simp [go_sem])
  · have hge : i = xs.length := by have := of_decide_eq_false hc; omega
    subst hge
    refine finM_ok (by rw [List.take_length]) ?_
    rw [List.take_length, List.drop_length, List.append_nil]
theorem k431 (xs : List GBreak) (k : Int) (h0 : 0 ≤ k) (hk : k + (sumN GBreak.ct xs : Nat) ≤ 4611686018427387904) (hz : xs.length ≤ 4194304) : Mark Gm 431 (.lst 2 (xs.map GBreak.enc) false) (.lst 2 ((mkL GBreak.mrk GBreak.ct xs k).map GBreak.enc) false) k (k + (sumN GBreak.ct xs : Nat)) := by
  refine Mark.intro g431 (by kernel_rfl) rfl (pls_map GBreak.plx xs) (pls_map GBreak.plx _) (by simp only [AV.rows, rowss_mk GBreak.mrk GBreak.ct (enc := GBreak.enc) GBreak.rowsM]) ?_
  simp only [F431, vparams, lay_l1, go_sem, List.length_map, Nat.zero_add]
  refine Sem.loop (fun i : Nat => i ≤ xs.length) (fun i => (⟨[(0, .slice 2 0 0 xs.length false), (1, .int .i64 (k + ((sumN GBreak.ct (xs.take i) : Nat) : Int))), (5, .int .i64 (i : Nat))], [], (lay (.lst 2 ((mkL GBreak.mrk GBreak.ct (xs.take i) k ++ xs.drop i).map GBreak.enc) false) 0).2⟩ : VSt)) (fun i => xs.length - i) 0 (by kernel_rfl) (Nat.zero_le _) (by simp only [List.take_zero, mkL, List.nil_append, List.drop_zero, sumN, Int.ofNat_zero, Int.add_zero]; exact Can.sub (by simp [go_sem]) (by simp [go_sem])) ?_
  intro i hi
  simp only [go_sem, Nat.reduceEqDiff, reduceIte, eq_self]
  refine cnd_split ?_ ?_ <;> intro hc <;> simp only [hc, go_sem, Nat.reduceEqDiff, reduceIte, eq_self]
  · have hlt : i < xs.length := by have := of_decide_eq_true hc; omega
    have hct := sumN_succ GBreak.ct hlt
    have hcl := sumN_le GBreak.ct xs (i + 1)
    have hrow := GBreak.rowsM
    rw [List.drop_eq_getElem_cons hlt, lay_midE]
    obtain ⟨K, hK⟩ : ∃ K : Int, K = k + ((sumN GBreak.ct (xs.take i) : Nat) : Int) := ⟨_, rfl⟩
    have hend : k + ((sumN GBreak.ct (xs.take (i + 1)) : Nat) : Int) = K + ((GBreak.ct xs[i] : Nat) : Int) := by rw [hct, hK]; omega
    have hKb : 0 ≤ K ∧ K + ((GBreak.ct xs[i] : Nat) : Int) ≤ 4611686018427387904 := by rw [← hend]; omega
    have hmk : (mkL GBreak.mrk GBreak.ct (xs.take (i + 1)) k ++ xs.drop (i + 1)) = mkL GBreak.mrk GBreak.ct (xs.take i) k ++ GBreak.mrk xs[i] K :: xs.drop (i + 1) := by rw [mkL_succ GBreak.mrk GBreak.ct hlt, ← hK, List.append_assoc]; rfl
    have hrx := hrow xs[i] K
    rw [← hK]
    obtain ⟨y, hy⟩ : ∃ y, y = xs[i] := ⟨_, rfl⟩
    rw [← hy] at hmk hend hKb hrx ⊢
    have hcy : GBreak.ct y = 1 + 1 := rfl
    rw [hcy] at hend hKb
    have hA : (lays ((mkL GBreak.mrk GBreak.ct (xs.take i) k).map GBreak.enc) 1).1.length = i := by rw [lays_length, List.length_map, mkL_length]; simp; omega
    have hoA := lays_len ((mkL GBreak.mrk GBreak.ct (xs.take i) k).map GBreak.enc) 1
    have e2 := lay_midE (enc := GBreak.enc) (w := 2) (c := false) (A := mkL GBreak.mrk GBreak.ct (xs.take i) k) (B := xs.drop (i + 1)) (z := GBreak.mrk y K)
    rw [hrx] at e2
    rw [GBreak.layE] at e2 ⊢
    obtain ⟨p, hp⟩ : ∃ p, p = 1 + AV.rowss ((mkL GBreak.mrk GBreak.ct (xs.take i) k).map GBreak.enc) := ⟨_, rfl⟩
    rw [← hp] at e2 ⊢
    generalize (lays ((xs.drop (i + 1)).map GBreak.enc) (p + y.enc.rows)).1 = vB at e2 ⊢
    generalize (lays ((xs.drop (i + 1)).map GBreak.enc) (p + y.enc.rows)).2 = oB at e2 ⊢
    generalize (lays ((mkL GBreak.mrk GBreak.ct (xs.take i) k).map GBreak.enc) 1).1 = vA at e2 hA ⊢
    generalize (lays ((mkL GBreak.mrk GBreak.ct (xs.take i) k).map GBreak.enc) 1).2 = oA at e2 hoA ⊢
    simp only [idx_s hlt, go_sem, Nat.reduceEqDiff, reduceIte, eq_self, Nat.zero_add]
    refine sto_ok (e' := .agg [.int .i64 (K), .int .i64 y.Value]) (by rfl) (by rfl) (mid_at hA) (by rfl) ?_
    simp only [mid_set hA, idx_s hlt, List.set_cons_zero, go_sem, Nat.reduceEqDiff, reduceIte, eq_self, Nat.zero_add]
    rw [wrap_small (n := K + 1) (by omega) (by omega)]
    try simp only [mid_at hA, mid_set hA, idx_s hlt, List.set_cons_zero, go_sem, Nat.reduceEqDiff, reduceIte, Bool.not_true, Bool.not_false, Bool.false_eq_true, List.length_cons, List.length_nil, Nat.reduceAdd, List.getElem?_cons_zero, List.getElem?_cons_succ, decide_true, eq_self, List.length_map, Nat.zero_add]
    refine sto_ok (e' := .agg [.int .i64 (K), .int .i64 (K + 1)]) (by rfl) (by rfl) (mid_at hA) (by rfl) ?_
    simp only [mid_set hA, List.set_cons_zero, go_sem, Nat.reduceEqDiff, reduceIte, eq_self]
    rw [wrap_small (n := K + 1 + 1) (by omega) (by omega)]
    simp only [wrap_succ (show i < 4611686018427387904 by omega)]
    refine loopQ_nrm (i + 1) (by omega) (by omega) ?_
    have e3 : K + 1 + 1 = k + ((sumN GBreak.ct (xs.take (i + 1)) : Nat) : Int) := by first | (rw [hend]; done) | (rw [hend]; omega)
    rw [e3]
    rw [hmk, e2]
    simp only [GBreak.mrk, AV.rows, List.nil_append]
    exact Can.sub (by simp [go_sem]) (by simp [go_sem])
  · have hge : i = xs.length := by have := of_decide_eq_false hc; omega
    subst hge
    refine finM_ok (by rw [List.take_length]) ?_
    rw [List.take_length, List.drop_length, List.append_nil]
theorem k432 (xs : List GCheckpoint) (k : Int) (h0 : 0 ≤ k) (hk : k + (sumN GCheckpoint.ct xs : Nat) ≤ 4611686018427387904) (hz : xs.length + sumN GCheckpoint.sz xs ≤ 4194304) : Mark Gm 432 (.lst 3 (xs.map GCheckpoint.enc) false) (.lst 3 ((mkL GCheckpoint.mrk GCheckpoint.ct xs k).map GCheckpoint.enc) false) k (k + (sumN GCheckpoint.ct xs : Nat)) := by
  refine Mark.intro g432 (by kernel_rfl) rfl (pls_map GCheckpoint.plx xs) (pls_map GCheckpoint.plx _) (by simp only [AV.rows, rowss_mk GCheckpoint.mrk GCheckpoint.ct (enc := GCheckpoint.enc) GCheckpoint.rowsM]) ?_
  simp only [F432, vparams, lay_l1, go_sem, List.length_map, Nat.zero_add]
  refine Sem.loop (fun i : Nat => i ≤ xs.length) (fun i => (⟨[(0, .slice 3 0 0 xs.length false), (1, .int .i64 (k + ((sumN GCheckpoint.ct (xs.take i) : Nat) : Int))), (5, .int .i64 (i : Nat))], [], (lay (.lst 3 ((mkL GCheckpoint.mrk GCheckpoint.ct (xs.take i) k ++ xs.drop i).map GCheckpoint.enc) false) 0).2⟩ : VSt)) (fun i => xs.length - i) 0 (by kernel_rfl) (Nat.zero_le _) (by simp only [List.take_zero, mkL, List.nil_append, List.drop_zero, sumN, Int.ofNat_zero, Int.add_zero]; exact Can.sub (by simp [go_sem]) (by simp [go_sem])) ?_
  intro i hi
  simp only [go_sem, Nat.reduceEqDiff, reduceIte, eq_self]
  refine cnd_split ?_ ?_ <;> intro hc <;> simp only [hc, go_sem, Nat.reduceEqDiff, reduceIte, eq_self]
  · have hlt : i < xs.length := by have := of_decide_eq_true hc; omega
    have hct := sumN_succ GCheckpoint.ct hlt
    have hcl := sumN_le GCheckpoint.ct xs (i + 1)
    have hrow := GCheckpoint.rowsM
    rw [List.drop_eq_getElem_cons hlt, lay_midE]
    have hsz : GCheckpoint.sz xs[i] ≤ sumN GCheckpoint.sz xs := le_sumN (f := GCheckpoint.sz) (List.getElem_mem hlt)
    obtain ⟨K, hK⟩ : ∃ K : Int, K = k + ((sumN GCheckpoint.ct (xs.take i) : Nat) : Int) := ⟨_, rfl⟩
    have hend : k + ((sumN GCheckpoint.ct (xs.take (i + 1)) : Nat) : Int) = K + ((GCheckpoint.ct xs[i] : Nat) : Int) := by rw [hct, hK]; omega
    have hKb : 0 ≤ K ∧ K + ((GCheckpoint.ct xs[i] : Nat) : Int) ≤ 4611686018427387904 := by rw [← hend]; omega
    have hmk : (mkL GCheckpoint.mrk GCheckpoint.ct (xs.take (i + 1)) k ++ xs.drop (i + 1)) = mkL GCheckpoint.mrk GCheckpoint.ct (xs.take i) k ++ GCheckpoint.mrk xs[i] K :: xs.drop (i + 1) := by rw [mkL_succ GCheckpoint.mrk GCheckpoint.ct hlt, ← hK, List.append_assoc]; rfl
    have hrx := hrow xs[i] K
    rw [← hK]
    obtain ⟨y, hy⟩ : ∃ y, y = xs[i] := ⟨_, rfl⟩
    rw [← hy] at hmk hend hKb hrx hsz ⊢
    have hcy : GCheckpoint.ct y = 1 + sumN GAgent.ct y.Net.Agents + sumN GOrigin.ct y.Origins := rfl
    rw [hcy] at hend hKb
    simp only [GCheckpoint.sz, GNet.sz] at hsz
    have hA : (lays ((mkL GCheckpoint.mrk GCheckpoint.ct (xs.take i) k).map GCheckpoint.enc) 1).1.length = i := by rw [lays_length, List.length_map, mkL_length]; simp; omega
    have hoA := lays_len ((mkL GCheckpoint.mrk GCheckpoint.ct (xs.take i) k).map GCheckpoint.enc) 1
    have e2 := lay_midE (enc := GCheckpoint.enc) (w := 3) (c := false) (A := mkL GCheckpoint.mrk GCheckpoint.ct (xs.take i) k) (B := xs.drop (i + 1)) (z := GCheckpoint.mrk y K)
    rw [hrx] at e2
    rw [GCheckpoint.layE] at e2 ⊢
    obtain ⟨p, hp⟩ : ∃ p, p = 1 + AV.rowss ((mkL GCheckpoint.mrk GCheckpoint.ct (xs.take i) k).map GCheckpoint.enc) := ⟨_, rfl⟩
    rw [← hp] at e2 ⊢
    generalize (lays ((xs.drop (i + 1)).map GCheckpoint.enc) (p + y.enc.rows)).1 = vB at e2 ⊢
    generalize (lays ((xs.drop (i + 1)).map GCheckpoint.enc) (p + y.enc.rows)).2 = oB at e2 ⊢
    generalize (lays ((mkL GCheckpoint.mrk GCheckpoint.ct (xs.take i) k).map GCheckpoint.enc) 1).1 = vA at e2 hA ⊢
    generalize (lays ((mkL GCheckpoint.mrk GCheckpoint.ct (xs.take i) k).map GCheckpoint.enc) 1).2 = oA at e2 hoA ⊢
    simp only [idx_s hlt, go_sem, Nat.reduceEqDiff, reduceIte, eq_self, Nat.zero_add]
    refine sto_ok (e' := .agg [.int .i64 (K), .slice 5 (p) 0 y.Net.Agents.length false, .slice 3 (p + AV.rows (.lst 5 (y.Net.Agents.map GAgent.enc) false)) 0 y.Origins.length false]) (by rfl) (by rfl) (mid_at hA) (by rfl) ?_
    simp only [mid_at hA, mid_set hA, idx_s hlt, List.set_cons_zero, go_sem, Nat.reduceEqDiff, reduceIte, Bool.not_true, Nat.reduceAdd, List.getElem?_cons_zero, List.getElem?_cons_succ, eq_self, Nat.zero_add]
    rw [wrap_small (n := K + 1) (by omega) (by omega)]
    try simp only [mid_at hA, mid_set hA, idx_s hlt, List.set_cons_zero, go_sem, Nat.reduceEqDiff, reduceIte, Bool.not_true, Bool.not_false, Bool.false_eq_true, List.length_cons, List.length_nil, Nat.reduceAdd, List.getElem?_cons_zero, List.getElem?_cons_succ, decide_true, eq_self, List.length_map, Nat.zero_add]
    refine call_markn (n := p) (pre := .row 3 (vA ++ .agg [.int .i64 (K), .slice 5 (p) 0 y.Net.Agents.length false, .slice 3 (p + AV.rows (.lst 5 (y.Net.Agents.map GAgent.enc) false)) 0 y.Origins.length false] :: vB) true :: (oA ++ [])) (post := ((lay (.lst 3 (y.Origins.map GOrigin.enc) false) (p + AV.rows (.lst 5 (y.Net.Agents.map GAgent.enc) false))).2 ++ []) ++ oB) (t := (.lst 5 (y.Net.Agents.map GAgent.enc) false)) (t' := (.lst 5 ((mkL GAgent.mrk GAgent.ct y.Net.Agents (K + 1)).map GAgent.enc) false)) (k524 y.Net.Agents (K + 1) (by omega) (by omega) (by omega)) ?_ ?_ (by rw [lay_l1, List.length_map]) ?_
    · first | rfl | (simp only [List.length_cons, List.length_append, List.length_nil, hoA, AV.rows]; done) | (simp only [List.length_cons, List.length_append, List.length_nil, hoA, AV.rows]; omega)
    · first | rfl | (simp only [List.append_assoc, List.append_nil, List.cons_append]; done)
    simp only [mid_at hA, idx_s hlt, List.cons_append, go_sem, Nat.reduceEqDiff, reduceIte, Bool.not_true, List.getElem?_cons_zero, List.getElem?_cons_succ, eq_self, Nat.zero_add]
    refine call_markn (n := p + AV.rows (.lst 5 (y.Net.Agents.map GAgent.enc) false)) (pre := .row 3 (vA ++ .agg [.int .i64 (K), .slice 5 (p) 0 y.Net.Agents.length false, .slice 3 (p + AV.rows (.lst 5 (y.Net.Agents.map GAgent.enc) false)) 0 y.Origins.length false] :: vB) true :: (oA ++ ((lay (.lst 5 ((mkL GAgent.mrk GAgent.ct y.Net.Agents (K + 1)).map GAgent.enc) false) (p)).2))) (post := ([]) ++ oB) (t := (.lst 3 (y.Origins.map GOrigin.enc) false)) (t' := (.lst 3 ((mkL GOrigin.mrk GOrigin.ct y.Origins (K + 1 + ((sumN GAgent.ct y.Net.Agents : Nat) : Int))).map GOrigin.enc) false)) (k430 y.Origins (K + 1 + ((sumN GAgent.ct y.Net.Agents : Nat) : Int)) (by omega) (by omega) (by omega)) ?_ ?_ (by rw [lay_l1, List.length_map]) ?_
    · first | rfl | (simp only [List.length_cons, List.length_append, hoA, lay_len, AV.rows, rowss_mk GAgent.mrk GAgent.ct (enc := GAgent.enc) GAgent.rowsM]; done) | (simp only [List.length_cons, List.length_append, hoA, lay_len, AV.rows, rowss_mk GAgent.mrk GAgent.ct (enc := GAgent.enc) GAgent.rowsM]; omega)
    · first | rfl | (simp only [List.append_assoc, List.nil_append, List.append_nil, List.cons_append]; done)
    simp only [List.cons_append, go_sem, Nat.reduceEqDiff, reduceIte, eq_self]
    simp only [wrap_succ (show i < 4611686018427387904 by omega)]
    refine loopQ_nrm (i + 1) (by omega) (by omega) ?_
    have e3 : K + 1 + ((sumN GAgent.ct y.Net.Agents : Nat) : Int) + ((sumN GOrigin.ct y.Origins : Nat) : Int) = k + ((sumN GCheckpoint.ct (xs.take (i + 1)) : Nat) : Int) := by first | (rw [hend]; done) | (rw [hend]; omega)
    rw [e3]
    rw [hmk, e2]
    simp only [GCheckpoint.mrk, mkL_length, AV.rows, List.append_assoc, List.nil_append, List.append_nil, rowss_mk GAgent.mrk GAgent.ct (enc := GAgent.enc) GAgent.rowsM]
    exact Can.sub (by simp [go_sem]) (by simp [go_sem])
  · have hge : i = xs.length := by have := of_decide_eq_false hc; omega
    subst hge
    refine finM_ok (by rw [List.take_length]) ?_
    rw [List.take_length, List.drop_length, List.append_nil]
theorem k136 (x : GDebugger) (k : Int) (h0 : 0 ≤ k) (hk : k + (x.ctV : Nat) ≤ 4611686018427387904) (hz : x.sz ≤ 4194304) : Mark Gm 136 x.enc (x.mkV k).enc k (k + (x.ctV : Nat)) := by
  refine Mark.intro g136 (by kernel_rfl) rfl (GDebugger.plx x) (GDebugger.plx _) (GDebugger.rowsV x k) ?_
  rw [GDebugger.layE, GDebugger.layE]
  simp only [F136, vparams, go_sem, Nat.reduceEqDiff, reduceIte, eq_self, Nat.zero_add]
  refine lbox_ok rfl ?_
  simp only [go_sem, Nat.reduceEqDiff, reduceIte, Bool.not_true, List.getElem?_cons_zero, eq_self]
  unfold GDebugger.ctV at hk
  simp only [GDebugger.sz, GNet.sz] at hz
  refine call_markn (n := 0) (pre := []) (post := (lay (.lst 1 (x.Schedule.map encI) false) (AV.rows (.lst 1 (x.Book.map GNet.enc) false))).2 ++ ((lay (.lst 5 (x.Net.Agents.map GAgent.enc) false) (AV.rows (.lst 1 (x.Book.map GNet.enc) false) + AV.rows (.lst 1 (x.Schedule.map encI) false))).2 ++ ((lay (.lst 3 (x.Origins.map GOrigin.enc) false) (AV.rows (.lst 1 (x.Book.map GNet.enc) false) + AV.rows (.lst 1 (x.Schedule.map encI) false) + AV.rows (.lst 5 (x.Net.Agents.map GAgent.enc) false))).2 ++ ((lay (.lst 2 (x.Breaks.map GBreak.enc) false) (AV.rows (.lst 1 (x.Book.map GNet.enc) false) + AV.rows (.lst 1 (x.Schedule.map encI) false) + AV.rows (.lst 5 (x.Net.Agents.map GAgent.enc) false) + AV.rows (.lst 3 (x.Origins.map GOrigin.enc) false))).2 ++ ((lay (.lst 3 (x.Points.map GCheckpoint.enc) false) (AV.rows (.lst 1 (x.Book.map GNet.enc) false) + AV.rows (.lst 1 (x.Schedule.map encI) false) + AV.rows (.lst 5 (x.Net.Agents.map GAgent.enc) false) + AV.rows (.lst 3 (x.Origins.map GOrigin.enc) false) + AV.rows (.lst 2 (x.Breaks.map GBreak.enc) false))).2 ++ []))))) (t := (.lst 1 (x.Book.map GNet.enc) false)) (t' := (.lst 1 ((mkL GNet.mrk GNet.ct x.Book (k)).map GNet.enc) false)) (k225 x.Book (k) (by omega) (by omega) (by omega)) ?_ ?_ (by rw [lay_l1, List.length_map]) ?_
  · first | rfl | (simp only [List.length_append, List.length_nil, lay_len, AV.rows, rowss_mk GAgent.mrk GAgent.ct (enc := GAgent.enc) GAgent.rowsM, rowss_mk GBreak.mrk GBreak.ct (enc := GBreak.enc) GBreak.rowsM, rowss_mk GCheckpoint.mrk GCheckpoint.ct (enc := GCheckpoint.enc) GCheckpoint.rowsM, rowss_mk GNet.mrk GNet.ct (enc := GNet.enc) GNet.rowsM, rowss_mk GOrigin.mrk GOrigin.ct (enc := GOrigin.enc) GOrigin.rowsM, rowss_mk mkI ctI (enc := encI) (fun _ _ => rfl)]; done) | (simp only [List.length_append, List.length_nil, lay_len, AV.rows, rowss_mk GAgent.mrk GAgent.ct (enc := GAgent.enc) GAgent.rowsM, rowss_mk GBreak.mrk GBreak.ct (enc := GBreak.enc) GBreak.rowsM, rowss_mk GCheckpoint.mrk GCheckpoint.ct (enc := GCheckpoint.enc) GCheckpoint.rowsM, rowss_mk GNet.mrk GNet.ct (enc := GNet.enc) GNet.rowsM, rowss_mk GOrigin.mrk GOrigin.ct (enc := GOrigin.enc) GOrigin.rowsM, rowss_mk mkI ctI (enc := encI) (fun _ _ => rfl)]; omega)
  · first | rfl | (simp only [List.append_assoc, List.nil_append, List.append_nil]; done)
  simp only [List.nil_append, List.append_nil, go_sem, Nat.reduceEqDiff, reduceIte, Bool.not_true, List.getElem?_cons_zero, List.getElem?_cons_succ, eq_self]
  refine call_markn (n := AV.rows (.lst 1 (x.Book.map GNet.enc) false)) (pre := (lay (.lst 1 ((mkL GNet.mrk GNet.ct x.Book (k)).map GNet.enc) false) (0)).2) (post := (lay (.lst 5 (x.Net.Agents.map GAgent.enc) false) (AV.rows (.lst 1 (x.Book.map GNet.enc) false) + AV.rows (.lst 1 (x.Schedule.map encI) false))).2 ++ ((lay (.lst 3 (x.Origins.map GOrigin.enc) false) (AV.rows (.lst 1 (x.Book.map GNet.enc) false) + AV.rows (.lst 1 (x.Schedule.map encI) false) + AV.rows (.lst 5 (x.Net.Agents.map GAgent.enc) false))).2 ++ ((lay (.lst 2 (x.Breaks.map GBreak.enc) false) (AV.rows (.lst 1 (x.Book.map GNet.enc) false) + AV.rows (.lst 1 (x.Schedule.map encI) false) + AV.rows (.lst 5 (x.Net.Agents.map GAgent.enc) false) + AV.rows (.lst 3 (x.Origins.map GOrigin.enc) false))).2 ++ ((lay (.lst 3 (x.Points.map GCheckpoint.enc) false) (AV.rows (.lst 1 (x.Book.map GNet.enc) false) + AV.rows (.lst 1 (x.Schedule.map encI) false) + AV.rows (.lst 5 (x.Net.Agents.map GAgent.enc) false) + AV.rows (.lst 3 (x.Origins.map GOrigin.enc) false) + AV.rows (.lst 2 (x.Breaks.map GBreak.enc) false))).2 ++ [])))) (t := (.lst 1 (x.Schedule.map encI) false)) (t' := (.lst 1 ((mkL mkI ctI x.Schedule (k + ((sumN GNet.ct x.Book : Nat) : Int))).map encI) false)) (k90 x.Schedule (k + ((sumN GNet.ct x.Book : Nat) : Int)) (by omega) (by omega) (by omega)) ?_ ?_ (by rw [lay_l1, List.length_map]) ?_
  · first | rfl | (simp only [lay_len, AV.rows, rowss_mk GNet.mrk GNet.ct (enc := GNet.enc) GNet.rowsM]; done) | (simp only [List.length_append, List.length_nil, lay_len, AV.rows, rowss_mk GAgent.mrk GAgent.ct (enc := GAgent.enc) GAgent.rowsM, rowss_mk GBreak.mrk GBreak.ct (enc := GBreak.enc) GBreak.rowsM, rowss_mk GCheckpoint.mrk GCheckpoint.ct (enc := GCheckpoint.enc) GCheckpoint.rowsM, rowss_mk GNet.mrk GNet.ct (enc := GNet.enc) GNet.rowsM, rowss_mk GOrigin.mrk GOrigin.ct (enc := GOrigin.enc) GOrigin.rowsM, rowss_mk mkI ctI (enc := encI) (fun _ _ => rfl)]; omega)
  · first | rfl | (simp only [List.append_nil]; done)
  simp only [List.append_nil, go_sem, Nat.reduceEqDiff, reduceIte, Bool.not_true, eq_self]
  refine call_markn (n := AV.rows (.lst 1 (x.Book.map GNet.enc) false) + AV.rows (.lst 1 (x.Schedule.map encI) false)) (pre := (lay (.lst 1 ((mkL GNet.mrk GNet.ct x.Book (k)).map GNet.enc) false) (0)).2 ++ (lay (.lst 1 ((mkL mkI ctI x.Schedule (k + ((sumN GNet.ct x.Book : Nat) : Int))).map encI) false) (AV.rows (.lst 1 (x.Book.map GNet.enc) false))).2) (post := (lay (.lst 3 (x.Origins.map GOrigin.enc) false) (AV.rows (.lst 1 (x.Book.map GNet.enc) false) + AV.rows (.lst 1 (x.Schedule.map encI) false) + AV.rows (.lst 5 (x.Net.Agents.map GAgent.enc) false))).2 ++ ((lay (.lst 2 (x.Breaks.map GBreak.enc) false) (AV.rows (.lst 1 (x.Book.map GNet.enc) false) + AV.rows (.lst 1 (x.Schedule.map encI) false) + AV.rows (.lst 5 (x.Net.Agents.map GAgent.enc) false) + AV.rows (.lst 3 (x.Origins.map GOrigin.enc) false))).2 ++ ((lay (.lst 3 (x.Points.map GCheckpoint.enc) false) (AV.rows (.lst 1 (x.Book.map GNet.enc) false) + AV.rows (.lst 1 (x.Schedule.map encI) false) + AV.rows (.lst 5 (x.Net.Agents.map GAgent.enc) false) + AV.rows (.lst 3 (x.Origins.map GOrigin.enc) false) + AV.rows (.lst 2 (x.Breaks.map GBreak.enc) false))).2 ++ []))) (t := x.Net.enc) (t' := (x.Net.mkV (k + ((sumN GNet.ct x.Book : Nat) : Int) + ((sumN ctI x.Schedule : Nat) : Int))).enc) (k198 x.Net (k + ((sumN GNet.ct x.Book : Nat) : Int) + ((sumN ctI x.Schedule : Nat) : Int)) (by omega) (by simp only [GNet.ctV]; omega) (by simp only [GNet.sz]; omega)) ?_ ?_ ?_ ?_
  · first | rfl | (simp only [List.length_append, lay_len, AV.rows, rowss_mk GNet.mrk GNet.ct (enc := GNet.enc) GNet.rowsM, rowss_mk mkI ctI (enc := encI) (fun _ _ => rfl)]; done) | (simp only [List.length_append, List.length_nil, lay_len, AV.rows, rowss_mk GAgent.mrk GAgent.ct (enc := GAgent.enc) GAgent.rowsM, rowss_mk GBreak.mrk GBreak.ct (enc := GBreak.enc) GBreak.rowsM, rowss_mk GCheckpoint.mrk GCheckpoint.ct (enc := GCheckpoint.enc) GCheckpoint.rowsM, rowss_mk GNet.mrk GNet.ct (enc := GNet.enc) GNet.rowsM, rowss_mk GOrigin.mrk GOrigin.ct (enc := GOrigin.enc) GOrigin.rowsM, rowss_mk mkI ctI (enc := encI) (fun _ _ => rfl)]; omega)
  · first | rfl | (simp only [GNet.layE, List.append_assoc, List.append_nil]; done)
  · rw [GNet.layE]
  simp only [GNet.layE, GNet.mkV, GNet.ctV, List.append_assoc, List.append_nil, go_sem, Nat.reduceEqDiff, reduceIte, Bool.not_true, List.getElem?_cons_zero, List.getElem?_cons_succ, eq_self]
  refine call_markn (n := AV.rows (.lst 1 (x.Book.map GNet.enc) false) + AV.rows (.lst 1 (x.Schedule.map encI) false) + AV.rows (.lst 5 (x.Net.Agents.map GAgent.enc) false)) (pre := (lay (.lst 1 ((mkL GNet.mrk GNet.ct x.Book (k)).map GNet.enc) false) (0)).2 ++ (lay (.lst 1 ((mkL mkI ctI x.Schedule (k + ((sumN GNet.ct x.Book : Nat) : Int))).map encI) false) (AV.rows (.lst 1 (x.Book.map GNet.enc) false))).2 ++ (lay (.lst 5 ((mkL GAgent.mrk GAgent.ct x.Net.Agents (k + ((sumN GNet.ct x.Book : Nat) : Int) + ((sumN ctI x.Schedule : Nat) : Int))).map GAgent.enc) false) (AV.rows (.lst 1 (x.Book.map GNet.enc) false) + AV.rows (.lst 1 (x.Schedule.map encI) false))).2) (post := (lay (.lst 2 (x.Breaks.map GBreak.enc) false) (AV.rows (.lst 1 (x.Book.map GNet.enc) false) + AV.rows (.lst 1 (x.Schedule.map encI) false) + AV.rows (.lst 5 (x.Net.Agents.map GAgent.enc) false) + AV.rows (.lst 3 (x.Origins.map GOrigin.enc) false))).2 ++ ((lay (.lst 3 (x.Points.map GCheckpoint.enc) false) (AV.rows (.lst 1 (x.Book.map GNet.enc) false) + AV.rows (.lst 1 (x.Schedule.map encI) false) + AV.rows (.lst 5 (x.Net.Agents.map GAgent.enc) false) + AV.rows (.lst 3 (x.Origins.map GOrigin.enc) false) + AV.rows (.lst 2 (x.Breaks.map GBreak.enc) false))).2 ++ [])) (t := (.lst 3 (x.Origins.map GOrigin.enc) false)) (t' := (.lst 3 ((mkL GOrigin.mrk GOrigin.ct x.Origins (k + ((sumN GNet.ct x.Book : Nat) : Int) + ((sumN ctI x.Schedule : Nat) : Int) + ((sumN GAgent.ct x.Net.Agents : Nat) : Int))).map GOrigin.enc) false)) (k430 x.Origins (k + ((sumN GNet.ct x.Book : Nat) : Int) + ((sumN ctI x.Schedule : Nat) : Int) + ((sumN GAgent.ct x.Net.Agents : Nat) : Int)) (by omega) (by omega) (by omega)) ?_ ?_ (by rw [lay_l1, List.length_map]) ?_
  · first | rfl | (simp only [List.length_append, lay_len, AV.rows, rowss_mk GAgent.mrk GAgent.ct (enc := GAgent.enc) GAgent.rowsM, rowss_mk GNet.mrk GNet.ct (enc := GNet.enc) GNet.rowsM, rowss_mk mkI ctI (enc := encI) (fun _ _ => rfl)]; done) | (simp only [List.length_append, List.length_nil, lay_len, AV.rows, rowss_mk GAgent.mrk GAgent.ct (enc := GAgent.enc) GAgent.rowsM, rowss_mk GBreak.mrk GBreak.ct (enc := GBreak.enc) GBreak.rowsM, rowss_mk GCheckpoint.mrk GCheckpoint.ct (enc := GCheckpoint.enc) GCheckpoint.rowsM, rowss_mk GNet.mrk GNet.ct (enc := GNet.enc) GNet.rowsM, rowss_mk GOrigin.mrk GOrigin.ct (enc := GOrigin.enc) GOrigin.rowsM, rowss_mk mkI ctI (enc := encI) (fun _ _ => rfl)]; omega)
  · first | rfl | (simp only [List.append_assoc, List.append_nil]; done)
  simp only [List.append_assoc, List.append_nil, go_sem, Nat.reduceEqDiff, reduceIte, Bool.not_true, List.getElem?_cons_zero, List.getElem?_cons_succ, eq_self]
  refine call_markn (n := AV.rows (.lst 1 (x.Book.map GNet.enc) false) + AV.rows (.lst 1 (x.Schedule.map encI) false) + AV.rows (.lst 5 (x.Net.Agents.map GAgent.enc) false) + AV.rows (.lst 3 (x.Origins.map GOrigin.enc) false)) (pre := (lay (.lst 1 ((mkL GNet.mrk GNet.ct x.Book (k)).map GNet.enc) false) (0)).2 ++ (lay (.lst 1 ((mkL mkI ctI x.Schedule (k + ((sumN GNet.ct x.Book : Nat) : Int))).map encI) false) (AV.rows (.lst 1 (x.Book.map GNet.enc) false))).2 ++ (lay (.lst 5 ((mkL GAgent.mrk GAgent.ct x.Net.Agents (k + ((sumN GNet.ct x.Book : Nat) : Int) + ((sumN ctI x.Schedule : Nat) : Int))).map GAgent.enc) false) (AV.rows (.lst 1 (x.Book.map GNet.enc) false) + AV.rows (.lst 1 (x.Schedule.map encI) false))).2 ++ (lay (.lst 3 ((mkL GOrigin.mrk GOrigin.ct x.Origins (k + ((sumN GNet.ct x.Book : Nat) : Int) + ((sumN ctI x.Schedule : Nat) : Int) + ((sumN GAgent.ct x.Net.Agents : Nat) : Int))).map GOrigin.enc) false) (AV.rows (.lst 1 (x.Book.map GNet.enc) false) + AV.rows (.lst 1 (x.Schedule.map encI) false) + AV.rows (.lst 5 (x.Net.Agents.map GAgent.enc) false))).2) (post := (lay (.lst 3 (x.Points.map GCheckpoint.enc) false) (AV.rows (.lst 1 (x.Book.map GNet.enc) false) + AV.rows (.lst 1 (x.Schedule.map encI) false) + AV.rows (.lst 5 (x.Net.Agents.map GAgent.enc) false) + AV.rows (.lst 3 (x.Origins.map GOrigin.enc) false) + AV.rows (.lst 2 (x.Breaks.map GBreak.enc) false))).2 ++ []) (t := (.lst 2 (x.Breaks.map GBreak.enc) false)) (t' := (.lst 2 ((mkL GBreak.mrk GBreak.ct x.Breaks (k + ((sumN GNet.ct x.Book : Nat) : Int) + ((sumN ctI x.Schedule : Nat) : Int) + ((sumN GAgent.ct x.Net.Agents : Nat) : Int) + ((sumN GOrigin.ct x.Origins : Nat) : Int))).map GBreak.enc) false)) (k431 x.Breaks (k + ((sumN GNet.ct x.Book : Nat) : Int) + ((sumN ctI x.Schedule : Nat) : Int) + ((sumN GAgent.ct x.Net.Agents : Nat) : Int) + ((sumN GOrigin.ct x.Origins : Nat) : Int)) (by omega) (by omega) (by omega)) ?_ ?_ (by rw [lay_l1, List.length_map]) ?_
  · first | rfl | (simp only [List.length_append, lay_len, AV.rows, rowss_mk GAgent.mrk GAgent.ct (enc := GAgent.enc) GAgent.rowsM, rowss_mk GNet.mrk GNet.ct (enc := GNet.enc) GNet.rowsM, rowss_mk GOrigin.mrk GOrigin.ct (enc := GOrigin.enc) GOrigin.rowsM, rowss_mk mkI ctI (enc := encI) (fun _ _ => rfl)]; done) | (simp only [List.length_append, List.length_nil, lay_len, AV.rows, rowss_mk GAgent.mrk GAgent.ct (enc := GAgent.enc) GAgent.rowsM, rowss_mk GBreak.mrk GBreak.ct (enc := GBreak.enc) GBreak.rowsM, rowss_mk GCheckpoint.mrk GCheckpoint.ct (enc := GCheckpoint.enc) GCheckpoint.rowsM, rowss_mk GNet.mrk GNet.ct (enc := GNet.enc) GNet.rowsM, rowss_mk GOrigin.mrk GOrigin.ct (enc := GOrigin.enc) GOrigin.rowsM, rowss_mk mkI ctI (enc := encI) (fun _ _ => rfl)]; omega)
  · first | rfl | (simp only [List.append_assoc, List.append_nil]; done)
  simp only [List.append_assoc, List.append_nil, go_sem, Nat.reduceEqDiff, reduceIte, Bool.not_true, List.getElem?_cons_zero, List.getElem?_cons_succ, eq_self]
  refine call_markn (n := AV.rows (.lst 1 (x.Book.map GNet.enc) false) + AV.rows (.lst 1 (x.Schedule.map encI) false) + AV.rows (.lst 5 (x.Net.Agents.map GAgent.enc) false) + AV.rows (.lst 3 (x.Origins.map GOrigin.enc) false) + AV.rows (.lst 2 (x.Breaks.map GBreak.enc) false)) (pre := (lay (.lst 1 ((mkL GNet.mrk GNet.ct x.Book (k)).map GNet.enc) false) (0)).2 ++ (lay (.lst 1 ((mkL mkI ctI x.Schedule (k + ((sumN GNet.ct x.Book : Nat) : Int))).map encI) false) (AV.rows (.lst 1 (x.Book.map GNet.enc) false))).2 ++ (lay (.lst 5 ((mkL GAgent.mrk GAgent.ct x.Net.Agents (k + ((sumN GNet.ct x.Book : Nat) : Int) + ((sumN ctI x.Schedule : Nat) : Int))).map GAgent.enc) false) (AV.rows (.lst 1 (x.Book.map GNet.enc) false) + AV.rows (.lst 1 (x.Schedule.map encI) false))).2 ++ (lay (.lst 3 ((mkL GOrigin.mrk GOrigin.ct x.Origins (k + ((sumN GNet.ct x.Book : Nat) : Int) + ((sumN ctI x.Schedule : Nat) : Int) + ((sumN GAgent.ct x.Net.Agents : Nat) : Int))).map GOrigin.enc) false) (AV.rows (.lst 1 (x.Book.map GNet.enc) false) + AV.rows (.lst 1 (x.Schedule.map encI) false) + AV.rows (.lst 5 (x.Net.Agents.map GAgent.enc) false))).2 ++ (lay (.lst 2 ((mkL GBreak.mrk GBreak.ct x.Breaks (k + ((sumN GNet.ct x.Book : Nat) : Int) + ((sumN ctI x.Schedule : Nat) : Int) + ((sumN GAgent.ct x.Net.Agents : Nat) : Int) + ((sumN GOrigin.ct x.Origins : Nat) : Int))).map GBreak.enc) false) (AV.rows (.lst 1 (x.Book.map GNet.enc) false) + AV.rows (.lst 1 (x.Schedule.map encI) false) + AV.rows (.lst 5 (x.Net.Agents.map GAgent.enc) false) + AV.rows (.lst 3 (x.Origins.map GOrigin.enc) false))).2) (post := []) (t := (.lst 3 (x.Points.map GCheckpoint.enc) false)) (t' := (.lst 3 ((mkL GCheckpoint.mrk GCheckpoint.ct x.Points (k + ((sumN GNet.ct x.Book : Nat) : Int) + ((sumN ctI x.Schedule : Nat) : Int) + ((sumN GAgent.ct x.Net.Agents : Nat) : Int) + ((sumN GOrigin.ct x.Origins : Nat) : Int) + ((sumN GBreak.ct x.Breaks : Nat) : Int))).map GCheckpoint.enc) false)) (k432 x.Points (k + ((sumN GNet.ct x.Book : Nat) : Int) + ((sumN ctI x.Schedule : Nat) : Int) + ((sumN GAgent.ct x.Net.Agents : Nat) : Int) + ((sumN GOrigin.ct x.Origins : Nat) : Int) + ((sumN GBreak.ct x.Breaks : Nat) : Int)) (by omega) (by omega) (by omega)) ?_ ?_ (by rw [lay_l1, List.length_map]) ?_
  · first | rfl | (simp only [List.length_append, lay_len, AV.rows, rowss_mk GAgent.mrk GAgent.ct (enc := GAgent.enc) GAgent.rowsM, rowss_mk GBreak.mrk GBreak.ct (enc := GBreak.enc) GBreak.rowsM, rowss_mk GNet.mrk GNet.ct (enc := GNet.enc) GNet.rowsM, rowss_mk GOrigin.mrk GOrigin.ct (enc := GOrigin.enc) GOrigin.rowsM, rowss_mk mkI ctI (enc := encI) (fun _ _ => rfl)]; done) | (simp only [List.length_append, List.length_nil, lay_len, AV.rows, rowss_mk GAgent.mrk GAgent.ct (enc := GAgent.enc) GAgent.rowsM, rowss_mk GBreak.mrk GBreak.ct (enc := GBreak.enc) GBreak.rowsM, rowss_mk GCheckpoint.mrk GCheckpoint.ct (enc := GCheckpoint.enc) GCheckpoint.rowsM, rowss_mk GNet.mrk GNet.ct (enc := GNet.enc) GNet.rowsM, rowss_mk GOrigin.mrk GOrigin.ct (enc := GOrigin.enc) GOrigin.rowsM, rowss_mk mkI ctI (enc := encI) (fun _ _ => rfl)]; omega)
  · first | rfl | (simp only [List.append_assoc, List.append_nil]; done)
  simp only [List.append_assoc, List.append_nil, go_sem, Nat.reduceEqDiff, reduceIte, eq_self]
  refine finM_ok (by first | rfl | (simp only [GDebugger.ctV]; done) | (simp only [GDebugger.ctV]; omega)) ?_
  simp only [GDebugger.mkV, AV.rows, rowss_mk GAgent.mrk GAgent.ct (enc := GAgent.enc) GAgent.rowsM, rowss_mk GBreak.mrk GBreak.ct (enc := GBreak.enc) GBreak.rowsM, rowss_mk GNet.mrk GNet.ct (enc := GNet.enc) GNet.rowsM, rowss_mk GOrigin.mrk GOrigin.ct (enc := GOrigin.enc) GOrigin.rowsM, rowss_mk mkI ctI (enc := encI) (fun _ _ => rfl)]
theorem q92 (xs : List Int) (k : Int) (h0 : 0 ≤ k) (hk : k + (sumN ctI xs : Nat) ≤ 4611686018427387904) (hz : xs.length ≤ 4194304) : Pure Gm 92 [.lst 1 ((mkL mkI ctI xs k).map encI) false, .int .i64 k] (.int .i64 (k + (sumN ctI xs : Nat))) := heldI_ok g92 rfl xs k h0 hk hz
theorem q886 (xs : List GPort) (k : Int) (h0 : 0 ≤ k) (hk : k + (sumN GPort.ct xs : Nat) ≤ 4611686018427387904) (hz : xs.length ≤ 4194304) : Pure Gm 886 [(.lst 2 ((mkL GPort.mrk GPort.ct xs k).map GPort.enc) false), .int .i64 k] (.int .i64 (k + (sumN GPort.ct xs : Nat))) := by
  refine Pure.intro [] [] g886 (by kernel_rfl) rfl (by simp [AV.trees, AV.tree, trees_map GPort.isSh.tree]) rfl ?_
  simp only [F886, vparams, go_sem, Nat.zero_add]
  refine Sem.loop (fun i : Nat => i ≤ xs.length) (fun i => (⟨[(0, (.lst 2 ((mkL GPort.mrk GPort.ct xs k).map GPort.enc) false)), (1, .int .i64 (k + ((sumN GPort.ct (xs.take i) : Nat) : Int))), (5, .int .i64 (i : Nat))], [], []⟩ : VSt)) (fun i => xs.length - i) 0 (by kernel_rfl) (Nat.zero_le _) (by simp only [List.take_zero, sumN, Int.ofNat_zero, Int.add_zero]; exact Can.sub (by simp [go_sem]) (by simp [go_sem])) ?_
  intro i hi
  simp only [mkL_length, go_sem, Nat.reduceEqDiff, reduceIte, eq_self, List.length_map]
  refine cnd_split ?_ ?_ <;> intro hc <;> simp only [hc, go_sem, Nat.reduceEqDiff, reduceIte, eq_self]
  · have hlt : i < xs.length := by have := of_decide_eq_true hc; omega
    have hct := sumN_succ GPort.ct hlt
    have hcl := sumN_le GPort.ct xs (i + 1)
    have hget := mkL_get GPort.mrk GPort.ct hlt k
    obtain ⟨K, hK⟩ : ∃ K : Int, K = k + ((sumN GPort.ct (xs.take i) : Nat) : Int) := ⟨_, rfl⟩
    have hend : k + ((sumN GPort.ct (xs.take (i + 1)) : Nat) : Int) = K + ((GPort.ct xs[i] : Nat) : Int) := by rw [hct, hK]; omega
    have hKb : 0 ≤ K ∧ K + ((GPort.ct xs[i] : Nat) : Int) ≤ 4611686018427387904 := by rw [← hend]; omega
    rw [← hK] at hget ⊢
    obtain ⟨y, hy⟩ : ∃ y, y = xs[i] := ⟨_, rfl⟩
    rw [← hy] at hget hend hKb
    have hcy : GPort.ct y = 1 + 1 := rfl
    rw [hcy] at hend hKb
    simp only [List.getElem?_map, hget, Option.map_some, go_sem, Nat.reduceEqDiff, reduceIte, eq_self, Nat.zero_add]
    try simp only [List.getElem?_map, hget, Option.map_some, GPort.mrk, go_sem, Nat.reduceEqDiff, reduceIte, Bool.not_true, decide_true, eq_self, Nat.zero_add]
    rw [wrap_small (n := K + 1) (by omega) (by omega)]
    try simp only [go_sem, Nat.reduceEqDiff, reduceIte, Bool.not_true, decide_true, eq_self]
    try simp only [List.getElem?_map, hget, Option.map_some, GPort.mrk, go_sem, Nat.reduceEqDiff, reduceIte, Bool.not_true, Bool.not_false, Bool.false_eq_true, List.length_cons, List.length_nil, Nat.reduceAdd, List.getElem?_cons_zero, List.getElem?_cons_succ, decide_true, eq_self, List.length_map, Nat.zero_add]
    rw [wrap_small (n := K + 1 + 1) (by omega) (by omega)]
    try simp only [List.getElem?_map, hget, Option.map_some, GPort.mrk, go_sem, Nat.reduceEqDiff, reduceIte, Bool.not_true, Bool.not_false, Bool.false_eq_true, List.length_cons, List.length_nil, Nat.reduceAdd, List.getElem?_cons_zero, List.getElem?_cons_succ, decide_true, eq_self, List.length_map, Nat.zero_add]
    simp only [wrap_succ (show i < 4611686018427387904 by omega)]
    refine loopQ_nrm (i + 1) (by omega) (by omega) ?_
    have e3 : K + 1 + 1 = k + ((sumN GPort.ct (xs.take (i + 1)) : Nat) : Int) := by first | (rw [hend]; done) | (rw [hend]; omega)
    rw [e3]
    exact Can.sub (by simp [go_sem]) (by simp [go_sem])
  · have hge : i = xs.length := by have := of_decide_eq_false hc; omega
    subst hge
    refine fin_eq rfl ?_
    rw [List.take_length]
theorem q525 (xs : List GAgent) (k : Int) (h0 : 0 ≤ k) (hk : k + (sumN GAgent.ct xs : Nat) ≤ 4611686018427387904) (hz : xs.length + sumN GAgent.sz xs ≤ 4194304) : Pure Gm 525 [(.lst 5 ((mkL GAgent.mrk GAgent.ct xs k).map GAgent.enc) false), .int .i64 k] (.int .i64 (k + (sumN GAgent.ct xs : Nat))) := by
  refine Pure.intro [] [] g525 (by kernel_rfl) rfl (by simp [AV.trees, AV.tree, trees_map GAgent.isSh.tree]) rfl ?_
  simp only [F525, vparams, go_sem, Nat.zero_add]
  refine Sem.loop (fun i : Nat => i ≤ xs.length) (fun i => (⟨[(0, (.lst 5 ((mkL GAgent.mrk GAgent.ct xs k).map GAgent.enc) false)), (1, .int .i64 (k + ((sumN GAgent.ct (xs.take i) : Nat) : Int))), (5, .int .i64 (i : Nat))], [], []⟩ : VSt)) (fun i => xs.length - i) 0 (by kernel_rfl) (Nat.zero_le _) (by simp only [List.take_zero, sumN, Int.ofNat_zero, Int.add_zero]; exact Can.sub (by simp [go_sem]) (by simp [go_sem])) ?_
  intro i hi
  simp only [mkL_length, go_sem, Nat.reduceEqDiff, reduceIte, eq_self, List.length_map]
  refine cnd_split ?_ ?_ <;> intro hc <;> simp only [hc, go_sem, Nat.reduceEqDiff, reduceIte, eq_self]
  · have hlt : i < xs.length := by have := of_decide_eq_true hc; omega
    have hct := sumN_succ GAgent.ct hlt
    have hcl := sumN_le GAgent.ct xs (i + 1)
    have hget := mkL_get GAgent.mrk GAgent.ct hlt k
    have hsz : GAgent.sz xs[i] ≤ sumN GAgent.sz xs := le_sumN (f := GAgent.sz) (List.getElem_mem hlt)
    obtain ⟨K, hK⟩ : ∃ K : Int, K = k + ((sumN GAgent.ct (xs.take i) : Nat) : Int) := ⟨_, rfl⟩
    have hend : k + ((sumN GAgent.ct (xs.take (i + 1)) : Nat) : Int) = K + ((GAgent.ct xs[i] : Nat) : Int) := by rw [hct, hK]; omega
    have hKb : 0 ≤ K ∧ K + ((GAgent.ct xs[i] : Nat) : Int) ≤ 4611686018427387904 := by rw [← hend]; omega
    rw [← hK] at hget ⊢
    obtain ⟨y, hy⟩ : ∃ y, y = xs[i] := ⟨_, rfl⟩
    rw [← hy] at hget hend hKb hsz
    have hcy : GAgent.ct y = 1 + 1 + 1 + sumN ctI y.Data + sumN GPort.ct y.Ports := rfl
    rw [hcy] at hend hKb
    simp only [GAgent.sz] at hsz
    simp only [List.getElem?_map, hget, Option.map_some, go_sem, Nat.reduceEqDiff, reduceIte, eq_self, Nat.zero_add]
    try simp only [List.getElem?_map, hget, Option.map_some, GAgent.mrk, go_sem, Nat.reduceEqDiff, reduceIte, Bool.not_true, decide_true, eq_self, Nat.zero_add]
    rw [wrap_small (n := K + 1) (by omega) (by omega)]
    try simp only [List.getElem?_map, hget, Option.map_some, GAgent.mrk, go_sem, Nat.reduceEqDiff, reduceIte, Bool.not_true, decide_true, eq_self, Nat.zero_add]
    try simp only [List.getElem?_map, hget, Option.map_some, GAgent.mrk, go_sem, Nat.reduceEqDiff, reduceIte, Bool.not_true, Bool.not_false, Bool.false_eq_true, List.length_cons, List.length_nil, Nat.reduceAdd, List.getElem?_cons_zero, List.getElem?_cons_succ, decide_true, eq_self, List.length_map, Nat.zero_add]
    rw [wrap_small (n := K + 1 + 1) (by omega) (by omega)]
    try simp only [List.getElem?_map, hget, Option.map_some, GAgent.mrk, go_sem, Nat.reduceEqDiff, reduceIte, Bool.not_true, decide_true, eq_self, Nat.zero_add]
    try simp only [List.getElem?_map, hget, Option.map_some, GAgent.mrk, go_sem, Nat.reduceEqDiff, reduceIte, Bool.not_true, Bool.not_false, Bool.false_eq_true, List.length_cons, List.length_nil, Nat.reduceAdd, List.getElem?_cons_zero, List.getElem?_cons_succ, decide_true, eq_self, List.length_map, Nat.zero_add]
    rw [wrap_small (n := K + 1 + 1 + 1) (by omega) (by omega)]
    try simp only [List.getElem?_map, hget, Option.map_some, GAgent.mrk, go_sem, Nat.reduceEqDiff, reduceIte, Bool.not_true, Bool.not_false, Bool.false_eq_true, List.length_cons, List.length_nil, Nat.reduceAdd, List.getElem?_cons_zero, List.getElem?_cons_succ, decide_true, eq_self, List.length_map, Nat.zero_add]
    try simp only [List.getElem?_map, hget, Option.map_some, GAgent.mrk, go_sem, Nat.reduceEqDiff, reduceIte, Bool.not_true, Bool.not_false, Bool.false_eq_true, List.length_cons, List.length_nil, Nat.reduceAdd, List.getElem?_cons_zero, List.getElem?_cons_succ, decide_true, eq_self, List.length_map, Nat.zero_add]
    refine call_pure (q92 y.Data (K + 1 + 1 + 1) (by omega) (by omega) (by omega)) ?_
    simp only [go_sem, Nat.reduceEqDiff, reduceIte, eq_self]
    rw [show decide (K + 1 + 1 + 1 + ((sumN ctI y.Data : Nat) : Int) < 0) = false from decide_eq_false (by omega)]
    simp only [List.getElem?_map, hget, Option.map_some, GAgent.mrk, go_sem, Nat.reduceEqDiff, reduceIte, Bool.not_true, eq_self, Nat.zero_add]
    try simp only [List.getElem?_map, hget, Option.map_some, GAgent.mrk, go_sem, Nat.reduceEqDiff, reduceIte, Bool.not_true, Bool.not_false, Bool.false_eq_true, List.length_cons, List.length_nil, Nat.reduceAdd, List.getElem?_cons_zero, List.getElem?_cons_succ, decide_true, eq_self, List.length_map, Nat.zero_add]
    refine call_pure (q886 y.Ports (K + 1 + 1 + 1 + ((sumN ctI y.Data : Nat) : Int)) (by omega) (by omega) (by omega)) ?_
    simp only [go_sem, Nat.reduceEqDiff, reduceIte, eq_self]
    rw [show decide (K + 1 + 1 + 1 + ((sumN ctI y.Data : Nat) : Int) + ((sumN GPort.ct y.Ports : Nat) : Int) < 0) = false from decide_eq_false (by omega)]
    simp only [go_sem, Nat.reduceEqDiff, reduceIte, eq_self]
    simp only [wrap_succ (show i < 4611686018427387904 by omega)]
    refine loopQ_nrm (i + 1) (by omega) (by omega) ?_
    have e3 : K + 1 + 1 + 1 + ((sumN ctI y.Data : Nat) : Int) + ((sumN GPort.ct y.Ports : Nat) : Int) = k + ((sumN GAgent.ct (xs.take (i + 1)) : Nat) : Int) := by first | (rw [hend]; done) | (rw [hend]; omega)
    rw [e3]
    exact Can.sub (by simp [go_sem]) (by simp [go_sem])
  · have hge : i = xs.length := by have := of_decide_eq_false hc; omega
    subst hge
    refine fin_eq rfl ?_
    rw [List.take_length]
theorem q199 (x : GNet) (k : Int) (h0 : 0 ≤ k) (hk : k + (x.ctV : Nat) ≤ 4611686018427387904) (hz : x.sz ≤ 4194304) : Pure Gm 199 [(x.mkV k).enc, .int .i64 k] (.int .i64 (k + (x.ctV : Nat))) := by
  refine Pure.intro [] [] g199 (by kernel_rfl) rfl (by simp [AV.trees, AV.tree, GNet.tr]) rfl ?_
  simp only [F199, vparams, go_sem, Nat.reduceEqDiff, reduceIte, eq_self, Nat.zero_add]
  refine lbox_ok rfl ?_
  simp only [go_sem, Nat.reduceEqDiff, reduceIte, Bool.not_true, eq_self]
  unfold GNet.ctV at hk
  simp only [GNet.sz] at hz
  refine call_pure (q525 x.Agents (k) (by omega) (by omega) (by omega)) ?_
  simp only [go_sem, Nat.reduceEqDiff, reduceIte, eq_self]
  try (rw [show decide (k + ((sumN GAgent.ct x.Agents : Nat) : Int) < 0) = false from decide_eq_false (by omega)]; simp only [go_sem, Nat.reduceEqDiff, reduceIte, eq_self])
  refine fin_eq rfl ?_
  first | rfl | (simp only [GNet.ctV, AV.int.injEq, true_and]; done) | (simp only [GNet.ctV, AV.int.injEq, true_and]; omega)
theorem q230 (xs : List GNet) (k : Int) (h0 : 0 ≤ k) (hk : k + (sumN GNet.ct xs : Nat) ≤ 4611686018427387904) (hz : xs.length + sumN GNet.sz xs ≤ 4194304) : Pure Gm 230 [(.lst 1 ((mkL GNet.mrk GNet.ct xs k).map GNet.enc) false), .int .i64 k] (.int .i64 (k + (sumN GNet.ct xs : Nat))) := by
  refine Pure.intro [] [] g230 (by kernel_rfl) rfl (by simp [AV.trees, AV.tree, trees_map GNet.isSh.tree]) rfl ?_
  simp only [F230, vparams, go_sem, Nat.zero_add]
  refine Sem.loop (fun i : Nat => i ≤ xs.length) (fun i => (⟨[(0, (.lst 1 ((mkL GNet.mrk GNet.ct xs k).map GNet.enc) false)), (1, .int .i64 (k + ((sumN GNet.ct (xs.take i) : Nat) : Int))), (5, .int .i64 (i : Nat))], [], []⟩ : VSt)) (fun i => xs.length - i) 0 (by kernel_rfl) (Nat.zero_le _) (by simp only [List.take_zero, sumN, Int.ofNat_zero, Int.add_zero]; exact Can.sub (by simp [go_sem]) (by simp [go_sem])) ?_
  intro i hi
  simp only [mkL_length, go_sem, Nat.reduceEqDiff, reduceIte, eq_self, List.length_map]
  refine cnd_split ?_ ?_ <;> intro hc <;> simp only [hc, go_sem, Nat.reduceEqDiff, reduceIte, eq_self]
  · have hlt : i < xs.length := by have := of_decide_eq_true hc; omega
    have hct := sumN_succ GNet.ct hlt
    have hcl := sumN_le GNet.ct xs (i + 1)
    have hget := mkL_get GNet.mrk GNet.ct hlt k
    have hsz : GNet.sz xs[i] ≤ sumN GNet.sz xs := le_sumN (f := GNet.sz) (List.getElem_mem hlt)
    obtain ⟨K, hK⟩ : ∃ K : Int, K = k + ((sumN GNet.ct (xs.take i) : Nat) : Int) := ⟨_, rfl⟩
    have hend : k + ((sumN GNet.ct (xs.take (i + 1)) : Nat) : Int) = K + ((GNet.ct xs[i] : Nat) : Int) := by rw [hct, hK]; omega
    have hKb : 0 ≤ K ∧ K + ((GNet.ct xs[i] : Nat) : Int) ≤ 4611686018427387904 := by rw [← hend]; omega
    rw [← hK] at hget ⊢
    obtain ⟨y, hy⟩ : ∃ y, y = xs[i] := ⟨_, rfl⟩
    rw [← hy] at hget hend hKb hsz
    have hcy : GNet.ct y = sumN GAgent.ct y.Agents := rfl
    rw [hcy] at hend hKb
    simp only [GNet.sz] at hsz
    simp only [List.getElem?_map, hget, Option.map_some, go_sem, Nat.reduceEqDiff, reduceIte, Bool.not_true, eq_self, Nat.zero_add]
    try simp only [GNet.mrk, go_sem]
    refine call_pure (q525 y.Agents (K) (by omega) (by omega) (by omega)) ?_
    simp only [go_sem, Nat.reduceEqDiff, reduceIte, eq_self]
    rw [show decide (K + ((sumN GAgent.ct y.Agents : Nat) : Int) < 0) = false from decide_eq_false (by omega)]
    simp only [go_sem, Nat.reduceEqDiff, reduceIte, eq_self]
    simp only [wrap_succ (show i < 4611686018427387904 by omega)]
    refine loopQ_nrm (i + 1) (by omega) (by omega) ?_
    have e3 : K + ((sumN GAgent.ct y.Agents : Nat) : Int) = k + ((sumN GNet.ct (xs.take (i + 1)) : Nat) : Int) := by first | (rw [hend]; done) | (rw [hend]; omega)
    rw [e3]
    exact Can.sub (by simp [go_sem]) (by simp [go_sem])
  · have hge : i = xs.length := by have := of_decide_eq_false hc; omega
    subst hge
    refine fin_eq rfl ?_
    rw [List.take_length]
theorem q433 (xs : List GOrigin) (k : Int) (h0 : 0 ≤ k) (hk : k + (sumN GOrigin.ct xs : Nat) ≤ 4611686018427387904) (hz : xs.length ≤ 4194304) : Pure Gm 433 [(.lst 3 ((mkL GOrigin.mrk GOrigin.ct xs k).map GOrigin.enc) false), .int .i64 k] (.int .i64 (k + (sumN GOrigin.ct xs : Nat))) := by
  refine Pure.intro [] [] g433 (by kernel_rfl) rfl (by simp [AV.trees, AV.tree, trees_map GOrigin.isSh.tree]) rfl ?_
  simp only [F433, vparams, go_sem, Nat.zero_add]
  refine Sem.loop (fun i : Nat => i ≤ xs.length) (fun i => (⟨[(0, (.lst 3 ((mkL GOrigin.mrk GOrigin.ct xs k).map GOrigin.enc) false)), (1, .int .i64 (k + ((sumN GOrigin.ct (xs.take i) : Nat) : Int))), (5, .int .i64 (i : Nat))], [], []⟩ : VSt)) (fun i => xs.length - i) 0 (by kernel_rfl) (Nat.zero_le _) (by simp only [List.take_zero, sumN, Int.ofNat_zero, Int.add_zero]; exact Can.sub (by simp [go_sem]) (by simp [go_sem])) ?_
  intro i hi
  simp only [mkL_length, go_sem, Nat.reduceEqDiff, reduceIte, eq_self, List.length_map]
  refine cnd_split ?_ ?_ <;> intro hc <;> simp only [hc, go_sem, Nat.reduceEqDiff, reduceIte, eq_self]
  · have hlt : i < xs.length := by have := of_decide_eq_true hc; omega
    have hct := sumN_succ GOrigin.ct hlt
    have hcl := sumN_le GOrigin.ct xs (i + 1)
    have hget := mkL_get GOrigin.mrk GOrigin.ct hlt k
    obtain ⟨K, hK⟩ : ∃ K : Int, K = k + ((sumN GOrigin.ct (xs.take i) : Nat) : Int) := ⟨_, rfl⟩
    have hend : k + ((sumN GOrigin.ct (xs.take (i + 1)) : Nat) : Int) = K + ((GOrigin.ct xs[i] : Nat) : Int) := by rw [hct, hK]; omega
    have hKb : 0 ≤ K ∧ K + ((GOrigin.ct xs[i] : Nat) : Int) ≤ 4611686018427387904 := by rw [← hend]; omega
    rw [← hK] at hget ⊢
    obtain ⟨y, hy⟩ : ∃ y, y = xs[i] := ⟨_, rfl⟩
    rw [← hy] at hget hend hKb
    have hcy : GOrigin.ct y = 1 + 1 + 1 := rfl
    rw [hcy] at hend hKb
    simp only [List.getElem?_map, hget, Option.map_some, go_sem, Nat.reduceEqDiff, reduceIte, eq_self, Nat.zero_add]
    try simp only [List.getElem?_map, hget, Option.map_some, GOrigin.mrk, go_sem, Nat.reduceEqDiff, reduceIte, Bool.not_true, decide_true, eq_self, Nat.zero_add]
    rw [wrap_small (n := K + 1) (by omega) (by omega)]
    try simp only [List.getElem?_map, hget, Option.map_some, GOrigin.mrk, go_sem, Nat.reduceEqDiff, reduceIte, Bool.not_true, decide_true, eq_self, Nat.zero_add]
    try simp only [List.getElem?_map, hget, Option.map_some, GOrigin.mrk, go_sem, Nat.reduceEqDiff, reduceIte, Bool.not_true, Bool.not_false, Bool.false_eq_true, List.length_cons, List.length_nil, Nat.reduceAdd, List.getElem?_cons_zero, List.getElem?_cons_succ, decide_true, eq_self, List.length_map, Nat.zero_add]
    rw [wrap_small (n := K + 1 + 1) (by omega) (by omega)]
    try simp only [go_sem, Nat.reduceEqDiff, reduceIte, Bool.not_true, decide_true, eq_self]
    try simp only [List.getElem?_map, hget, Option.map_some, GOrigin.mrk, go_sem, Nat.reduceEqDiff, reduceIte, Bool.not_true, Bool.not_false, Bool.false_eq_true, List.length_cons, List.length_nil, Nat.reduceAdd, List.getElem?_cons_zero, List.getElem?_cons_succ, decide_true, eq_self, List.length_map, Nat.zero_add]
    rw [wrap_small (n := K + 1 + 1 + 1) (by omega) (by omega)]
    try simp only [List.getElem?_map, hget, Option.map_some, GOrigin.mrk, go_sem, Nat.reduceEqDiff, reduceIte, Bool.not_true, Bool.not_false, Bool.false_eq_true, List.length_cons, List.length_nil, Nat.reduceAdd, List.getElem?_cons_zero, List.getElem?_cons_succ, decide_true, eq_self, List.length_map, Nat.zero_add]
    simp only [wrap_succ (show i < 4611686018427387904 by omega)]
    refine loopQ_nrm (i + 1) (by omega) (by omega) ?_
    have e3 : K + 1 + 1 + 1 = k + ((sumN GOrigin.ct (xs.take (i + 1)) : Nat) : Int) := by first | (rw [hend]; done) | (rw [hend]; omega)
    rw [e3]
    exact Can.sub (by simp [go_sem]) (by simp [go_sem])
  · have hge : i = xs.length := by have := of_decide_eq_false hc; omega
    subst hge
    refine fin_eq rfl ?_
    rw [List.take_length]
theorem q434 (xs : List GBreak) (k : Int) (h0 : 0 ≤ k) (hk : k + (sumN GBreak.ct xs : Nat) ≤ 4611686018427387904) (hz : xs.length ≤ 4194304) : Pure Gm 434 [(.lst 2 ((mkL GBreak.mrk GBreak.ct xs k).map GBreak.enc) false), .int .i64 k] (.int .i64 (k + (sumN GBreak.ct xs : Nat))) := by
  refine Pure.intro [] [] g434 (by kernel_rfl) rfl (by simp [AV.trees, AV.tree, trees_map GBreak.isSh.tree]) rfl ?_
  simp only [F434, vparams, go_sem, Nat.zero_add]
  refine Sem.loop (fun i : Nat => i ≤ xs.length) (fun i => (⟨[(0, (.lst 2 ((mkL GBreak.mrk GBreak.ct xs k).map GBreak.enc) false)), (1, .int .i64 (k + ((sumN GBreak.ct (xs.take i) : Nat) : Int))), (5, .int .i64 (i : Nat))], [], []⟩ : VSt)) (fun i => xs.length - i) 0 (by kernel_rfl) (Nat.zero_le _) (by simp only [List.take_zero, sumN, Int.ofNat_zero, Int.add_zero]; exact Can.sub (by simp [go_sem]) (by simp [go_sem])) ?_
  intro i hi
  simp only [mkL_length, go_sem, Nat.reduceEqDiff, reduceIte, eq_self, List.length_map]
  refine cnd_split ?_ ?_ <;> intro hc <;> simp only [hc, go_sem, Nat.reduceEqDiff, reduceIte, eq_self]
  · have hlt : i < xs.length := by have := of_decide_eq_true hc; omega
    have hct := sumN_succ GBreak.ct hlt
    have hcl := sumN_le GBreak.ct xs (i + 1)
    have hget := mkL_get GBreak.mrk GBreak.ct hlt k
    obtain ⟨K, hK⟩ : ∃ K : Int, K = k + ((sumN GBreak.ct (xs.take i) : Nat) : Int) := ⟨_, rfl⟩
    have hend : k + ((sumN GBreak.ct (xs.take (i + 1)) : Nat) : Int) = K + ((GBreak.ct xs[i] : Nat) : Int) := by rw [hct, hK]; omega
    have hKb : 0 ≤ K ∧ K + ((GBreak.ct xs[i] : Nat) : Int) ≤ 4611686018427387904 := by rw [← hend]; omega
    rw [← hK] at hget ⊢
    obtain ⟨y, hy⟩ : ∃ y, y = xs[i] := ⟨_, rfl⟩
    rw [← hy] at hget hend hKb
    have hcy : GBreak.ct y = 1 + 1 := rfl
    rw [hcy] at hend hKb
    simp only [List.getElem?_map, hget, Option.map_some, go_sem, Nat.reduceEqDiff, reduceIte, eq_self, Nat.zero_add]
    try simp only [List.getElem?_map, hget, Option.map_some, GBreak.mrk, go_sem, Nat.reduceEqDiff, reduceIte, Bool.not_true, decide_true, eq_self, Nat.zero_add]
    rw [wrap_small (n := K + 1) (by omega) (by omega)]
    try simp only [go_sem, Nat.reduceEqDiff, reduceIte, Bool.not_true, decide_true, eq_self]
    try simp only [List.getElem?_map, hget, Option.map_some, GBreak.mrk, go_sem, Nat.reduceEqDiff, reduceIte, Bool.not_true, Bool.not_false, Bool.false_eq_true, List.length_cons, List.length_nil, Nat.reduceAdd, List.getElem?_cons_zero, List.getElem?_cons_succ, decide_true, eq_self, List.length_map, Nat.zero_add]
    rw [wrap_small (n := K + 1 + 1) (by omega) (by omega)]
    try simp only [List.getElem?_map, hget, Option.map_some, GBreak.mrk, go_sem, Nat.reduceEqDiff, reduceIte, Bool.not_true, Bool.not_false, Bool.false_eq_true, List.length_cons, List.length_nil, Nat.reduceAdd, List.getElem?_cons_zero, List.getElem?_cons_succ, decide_true, eq_self, List.length_map, Nat.zero_add]
    simp only [wrap_succ (show i < 4611686018427387904 by omega)]
    refine loopQ_nrm (i + 1) (by omega) (by omega) ?_
    have e3 : K + 1 + 1 = k + ((sumN GBreak.ct (xs.take (i + 1)) : Nat) : Int) := by first | (rw [hend]; done) | (rw [hend]; omega)
    rw [e3]
    exact Can.sub (by simp [go_sem]) (by simp [go_sem])
  · have hge : i = xs.length := by have := of_decide_eq_false hc; omega
    subst hge
    refine fin_eq rfl ?_
    rw [List.take_length]
theorem q435 (xs : List GCheckpoint) (k : Int) (h0 : 0 ≤ k) (hk : k + (sumN GCheckpoint.ct xs : Nat) ≤ 4611686018427387904) (hz : xs.length + sumN GCheckpoint.sz xs ≤ 4194304) : Pure Gm 435 [(.lst 3 ((mkL GCheckpoint.mrk GCheckpoint.ct xs k).map GCheckpoint.enc) false), .int .i64 k] (.int .i64 (k + (sumN GCheckpoint.ct xs : Nat))) := by
  refine Pure.intro [] [] g435 (by kernel_rfl) rfl (by simp [AV.trees, AV.tree, trees_map GCheckpoint.isSh.tree]) rfl ?_
  simp only [F435, vparams, go_sem, Nat.zero_add]
  refine Sem.loop (fun i : Nat => i ≤ xs.length) (fun i => (⟨[(0, (.lst 3 ((mkL GCheckpoint.mrk GCheckpoint.ct xs k).map GCheckpoint.enc) false)), (1, .int .i64 (k + ((sumN GCheckpoint.ct (xs.take i) : Nat) : Int))), (5, .int .i64 (i : Nat))], [], []⟩ : VSt)) (fun i => xs.length - i) 0 (by kernel_rfl) (Nat.zero_le _) (by simp only [List.take_zero, sumN, Int.ofNat_zero, Int.add_zero]; exact Can.sub (by simp [go_sem]) (by simp [go_sem])) ?_
  intro i hi
  simp only [mkL_length, go_sem, Nat.reduceEqDiff, reduceIte, eq_self, List.length_map]
  refine cnd_split ?_ ?_ <;> intro hc <;> simp only [hc, go_sem, Nat.reduceEqDiff, reduceIte, eq_self]
  · have hlt : i < xs.length := by have := of_decide_eq_true hc; omega
    have hct := sumN_succ GCheckpoint.ct hlt
    have hcl := sumN_le GCheckpoint.ct xs (i + 1)
    have hget := mkL_get GCheckpoint.mrk GCheckpoint.ct hlt k
    have hsz : GCheckpoint.sz xs[i] ≤ sumN GCheckpoint.sz xs := le_sumN (f := GCheckpoint.sz) (List.getElem_mem hlt)
    obtain ⟨K, hK⟩ : ∃ K : Int, K = k + ((sumN GCheckpoint.ct (xs.take i) : Nat) : Int) := ⟨_, rfl⟩
    have hend : k + ((sumN GCheckpoint.ct (xs.take (i + 1)) : Nat) : Int) = K + ((GCheckpoint.ct xs[i] : Nat) : Int) := by rw [hct, hK]; omega
    have hKb : 0 ≤ K ∧ K + ((GCheckpoint.ct xs[i] : Nat) : Int) ≤ 4611686018427387904 := by rw [← hend]; omega
    rw [← hK] at hget ⊢
    obtain ⟨y, hy⟩ : ∃ y, y = xs[i] := ⟨_, rfl⟩
    rw [← hy] at hget hend hKb hsz
    have hcy : GCheckpoint.ct y = 1 + sumN GAgent.ct y.Net.Agents + sumN GOrigin.ct y.Origins := rfl
    rw [hcy] at hend hKb
    simp only [GCheckpoint.sz, GNet.sz] at hsz
    simp only [List.getElem?_map, hget, Option.map_some, go_sem, Nat.reduceEqDiff, reduceIte, eq_self, Nat.zero_add]
    try simp only [List.getElem?_map, hget, Option.map_some, GCheckpoint.mrk, go_sem, Nat.reduceEqDiff, reduceIte, Bool.not_true, Nat.reduceAdd, decide_true, eq_self, Nat.zero_add]
    rw [wrap_small (n := K + 1) (by omega) (by omega)]
    try simp only [List.getElem?_map, hget, Option.map_some, GCheckpoint.mrk, go_sem, Nat.reduceEqDiff, reduceIte, Bool.not_true, Bool.not_false, Bool.false_eq_true, List.length_cons, List.length_nil, Nat.reduceAdd, List.getElem?_cons_zero, List.getElem?_cons_succ, decide_true, eq_self, List.length_map, Nat.zero_add]
    try simp only [List.getElem?_map, hget, Option.map_some, GCheckpoint.mrk, go_sem, Nat.reduceEqDiff, reduceIte, Bool.not_true, Bool.not_false, Bool.false_eq_true, List.length_cons, List.length_nil, Nat.reduceAdd, List.getElem?_cons_zero, List.getElem?_cons_succ, decide_true, eq_self, List.length_map, Nat.zero_add]
    refine call_pure (q525 y.Net.Agents (K + 1) (by omega) (by omega) (by omega)) ?_
    simp only [go_sem, Nat.reduceEqDiff, reduceIte, eq_self]
    rw [show decide (K + 1 + ((sumN GAgent.ct y.Net.Agents : Nat) : Int) < 0) = false from decide_eq_false (by omega)]
    simp only [List.getElem?_map, hget, Option.map_some, GCheckpoint.mrk, go_sem, Nat.reduceEqDiff, reduceIte, Bool.not_true, eq_self, Nat.zero_add]
    try simp only [List.getElem?_map, hget, Option.map_some, GCheckpoint.mrk, go_sem, Nat.reduceEqDiff, reduceIte, Bool.not_true, Bool.not_false, Bool.false_eq_true, List.length_cons, List.length_nil, Nat.reduceAdd, List.getElem?_cons_zero, List.getElem?_cons_succ, decide_true, eq_self, List.length_map, Nat.zero_add]
    refine call_pure (q433 y.Origins (K + 1 + ((sumN GAgent.ct y.Net.Agents : Nat) : Int)) (by omega) (by omega) (by omega)) ?_
    simp only [go_sem, Nat.reduceEqDiff, reduceIte, eq_self]
    rw [show decide (K + 1 + ((sumN GAgent.ct y.Net.Agents : Nat) : Int) + ((sumN GOrigin.ct y.Origins : Nat) : Int) < 0) = false from decide_eq_false (by omega)]
    simp only [go_sem, Nat.reduceEqDiff, reduceIte, eq_self]
    simp only [wrap_succ (show i < 4611686018427387904 by omega)]
    refine loopQ_nrm (i + 1) (by omega) (by omega) ?_
    have e3 : K + 1 + ((sumN GAgent.ct y.Net.Agents : Nat) : Int) + ((sumN GOrigin.ct y.Origins : Nat) : Int) = k + ((sumN GCheckpoint.ct (xs.take (i + 1)) : Nat) : Int) := by first | (rw [hend]; done) | (rw [hend]; omega)
    rw [e3]
    exact Can.sub (by simp [go_sem]) (by simp [go_sem])
  · have hge : i = xs.length := by have := of_decide_eq_false hc; omega
    subst hge
    refine fin_eq rfl ?_
    rw [List.take_length]
theorem q137 (x : GDebugger) (k : Int) (h0 : 0 ≤ k) (hk : k + (x.ctV : Nat) ≤ 4611686018427387904) (hz : x.sz ≤ 4194304) : Pure Gm 137 [(x.mkV k).enc, .int .i64 k] (.int .i64 (k + (x.ctV : Nat))) := by
  refine Pure.intro [] [] g137 (by kernel_rfl) rfl (by simp [AV.trees, AV.tree, GDebugger.tr]) rfl ?_
  simp only [F137, vparams, go_sem, Nat.reduceEqDiff, reduceIte, eq_self, Nat.zero_add]
  refine lbox_ok rfl ?_
  simp only [go_sem, Nat.reduceEqDiff, reduceIte, Bool.not_true, eq_self]
  unfold GDebugger.ctV at hk
  simp only [GDebugger.sz, GNet.sz] at hz
  refine call_pure (q230 x.Book (k) (by omega) (by omega) (by omega)) ?_
  simp only [go_sem, Nat.reduceEqDiff, reduceIte, eq_self]
  try (rw [show decide (k + ((sumN GNet.ct x.Book : Nat) : Int) < 0) = false from decide_eq_false (by omega)]; simp only [go_sem, Nat.reduceEqDiff, reduceIte, Bool.not_true, eq_self])
  refine call_pure (q92 x.Schedule (k + ((sumN GNet.ct x.Book : Nat) : Int)) (by omega) (by omega) (by omega)) ?_
  simp only [go_sem, Nat.reduceEqDiff, reduceIte, eq_self]
  try (rw [show decide (k + ((sumN GNet.ct x.Book : Nat) : Int) + ((sumN ctI x.Schedule : Nat) : Int) < 0) = false from decide_eq_false (by omega)]; simp only [go_sem, Nat.reduceEqDiff, reduceIte, Bool.not_true, eq_self])
  refine call_pure (q199 x.Net (k + ((sumN GNet.ct x.Book : Nat) : Int) + ((sumN ctI x.Schedule : Nat) : Int)) (by omega) (by simp only [GNet.ctV]; omega) (by simp only [GNet.sz]; omega)) ?_
  simp only [GNet.ctV, go_sem, Nat.reduceEqDiff, reduceIte, eq_self]
  try (rw [show decide (k + ((sumN GNet.ct x.Book : Nat) : Int) + ((sumN ctI x.Schedule : Nat) : Int) + ((sumN GAgent.ct x.Net.Agents : Nat) : Int) < 0) = false from decide_eq_false (by omega)]; simp only [go_sem, Nat.reduceEqDiff, reduceIte, Bool.not_true, eq_self])
  refine call_pure (q433 x.Origins (k + ((sumN GNet.ct x.Book : Nat) : Int) + ((sumN ctI x.Schedule : Nat) : Int) + ((sumN GAgent.ct x.Net.Agents : Nat) : Int)) (by omega) (by omega) (by omega)) ?_
  simp only [go_sem, Nat.reduceEqDiff, reduceIte, eq_self]
  try (rw [show decide (k + ((sumN GNet.ct x.Book : Nat) : Int) + ((sumN ctI x.Schedule : Nat) : Int) + ((sumN GAgent.ct x.Net.Agents : Nat) : Int) + ((sumN GOrigin.ct x.Origins : Nat) : Int) < 0) = false from decide_eq_false (by omega)]; simp only [go_sem, Nat.reduceEqDiff, reduceIte, Bool.not_true, eq_self])
  refine call_pure (q434 x.Breaks (k + ((sumN GNet.ct x.Book : Nat) : Int) + ((sumN ctI x.Schedule : Nat) : Int) + ((sumN GAgent.ct x.Net.Agents : Nat) : Int) + ((sumN GOrigin.ct x.Origins : Nat) : Int)) (by omega) (by omega) (by omega)) ?_
  simp only [go_sem, Nat.reduceEqDiff, reduceIte, eq_self]
  try (rw [show decide (k + ((sumN GNet.ct x.Book : Nat) : Int) + ((sumN ctI x.Schedule : Nat) : Int) + ((sumN GAgent.ct x.Net.Agents : Nat) : Int) + ((sumN GOrigin.ct x.Origins : Nat) : Int) + ((sumN GBreak.ct x.Breaks : Nat) : Int) < 0) = false from decide_eq_false (by omega)]; simp only [go_sem, Nat.reduceEqDiff, reduceIte, Bool.not_true, eq_self])
  refine call_pure (q435 x.Points (k + ((sumN GNet.ct x.Book : Nat) : Int) + ((sumN ctI x.Schedule : Nat) : Int) + ((sumN GAgent.ct x.Net.Agents : Nat) : Int) + ((sumN GOrigin.ct x.Origins : Nat) : Int) + ((sumN GBreak.ct x.Breaks : Nat) : Int)) (by omega) (by omega) (by omega)) ?_
  simp only [go_sem, Nat.reduceEqDiff, reduceIte, eq_self]
  try (rw [show decide (k + ((sumN GNet.ct x.Book : Nat) : Int) + ((sumN ctI x.Schedule : Nat) : Int) + ((sumN GAgent.ct x.Net.Agents : Nat) : Int) + ((sumN GOrigin.ct x.Origins : Nat) : Int) + ((sumN GBreak.ct x.Breaks : Nat) : Int) + ((sumN GCheckpoint.ct x.Points : Nat) : Int) < 0) = false from decide_eq_false (by omega)]; simp only [go_sem, Nat.reduceEqDiff, reduceIte, eq_self])
  refine fin_eq rfl ?_
  first | rfl | (simp only [GDebugger.ctV, AV.int.injEq, true_and]; done) | (simp only [GDebugger.ctV, AV.int.injEq, true_and]; omega)
end Go.Ab
namespace Go.Ab
open Go
set_option maxRecDepth 10000
set_option maxHeartbeats 2000000
theorem mks_cap {E : Ev} {d w : Nat} {z : AV} {k k' : IntKind} {n m : Nat} {l : List AOper} {ks : List Fr1} {s lo : LEnv} {h : List AObj} {Q : AExit → VSt → Prop} (hnm : n ≤ m) (hm : m ≤ 4294967296)
    (hr : New1 E (some d) (.row w (List.replicate n z) true) (.slice w h.length 0 n false) l ks ⟨s, lo, h⟩ Q) : Mks E (some d) w z (some (.int k (n : Nat))) (some (.int k' (m : Nat))) l ks ⟨s, lo, h⟩ Q := by
  unfold Mks
  refine ⟨by omega, by omega, by simp only [LIM]; omega, ?_⟩
  simpa only [Int.toNat_natCast] using hr
theorem flat {α : Type} {enc : α → AV} (h : ∀ x n, lay (enc x) n = (enc x, [])) : ∀ (xs : List α) (n : Nat), lays (xs.map enc) n = (xs.map enc, [])
  | [], _ => rfl
  | x :: xs, n => by simp only [List.map_cons, lays, h, List.length_nil, Nat.add_zero, flat h xs, List.nil_append]
theorem GPort.flat (xs : List GPort) (n : Nat) : lays (xs.map GPort.enc) n = (xs.map GPort.enc, []) := Go.Ab.flat (fun x n => GPort.layE x n) xs n
theorem GOrigin.flat (xs : List GOrigin) (n : Nat) : lays (xs.map GOrigin.enc) n = (xs.map GOrigin.enc, []) := Go.Ab.flat (fun x n => GOrigin.layE x n) xs n
theorem GBreak.flat (xs : List GBreak) (n : Nat) : lays (xs.map GBreak.enc) n = (xs.map GBreak.enc, []) := Go.Ab.flat (fun x n => GBreak.layE x n) xs n
theorem n401 (xs : List Int) (hz : xs.length ≤ 4194304) : Fresh Gm 401 [.lst 1 (xs.map encI) false] (.lst 1 (xs.map encI) false) :=
  clone_fresh (w := 1) g401 (lI xs) (pls_map (fun _ => rfl) xs) (trees_map shI.tree xs) (by simpa using hz)
theorem n1373 (xs : List GPort) (hz : xs.length ≤ 4194304) : Fresh Gm 1373 [.lst 2 (xs.map GPort.enc) false] (.lst 2 (xs.map GPort.enc) false) :=
  clone_fresh (w := 2) g1373 (GPort.flat xs) (pls_map GPort.plx xs) (trees_map GPort.isSh.tree xs) (by simpa using hz)
theorem n799 (xs : List GOrigin) (hz : xs.length ≤ 4194304) : Fresh Gm 799 [.lst 3 (xs.map GOrigin.enc) false] (.lst 3 (xs.map GOrigin.enc) false) :=
  clone_fresh (w := 3) g799 (GOrigin.flat xs) (pls_map GOrigin.plx xs) (trees_map GOrigin.isSh.tree xs) (by simpa using hz)
theorem n800 (xs : List GBreak) (hz : xs.length ≤ 4194304) : Fresh Gm 800 [.lst 2 (xs.map GBreak.enc) false] (.lst 2 (xs.map GBreak.enc) false) :=
  clone_fresh (w := 2) g800 (GBreak.flat xs) (pls_map GBreak.plx xs) (trees_map GBreak.isSh.tree xs) (by simpa using hz)
theorem n1085 (x : GAgent) (hz : x.sz ≤ 1048576) : Fresh Gm 1085 [x.enc] x.enc := by
  unfold GAgent.sz at hz
  refine Fresh.intro [] [] g1085 (by kernel_rfl) rfl (by simp [AV.trees, go_sem]) (GAgent.plx x) ?_
  simp only [F1085, vparams, go_sem, reduceIte, eq_self]
  refine lbox_ok rfl ?_
  simp only [GAgent.enc]
  simp only [go_sem, Nat.reduceEqDiff, reduceIte, Bool.not_true, List.getElem?_cons_zero, List.getElem?_cons_succ, eq_self]
  refine call_fresh (n401 x.Data (by omega)) ?_
  simp only [go_sem, lay_l1, Nat.reduceEqDiff, reduceIte, Bool.not_true, List.length_nil, eq_self, List.length_map]
  refine call_fresh (n1373 x.Ports (by omega)) ?_
  simp only [go_sem, lay_l1, Nat.reduceEqDiff, reduceIte, eq_self, List.length_map]
  refine lst_all rfl rfl ⟨_, rfl⟩ (by decide) ?_
  simp only [go_sem, Nat.reduceEqDiff, reduceIte, eq_self]
  exact finF_at (pre := []) (post := []) (t := x.enc) (GAgent.plx x) (by simp [packed, GAgent.layE, lay_len]) (by simp [GAgent.layE, lay_len])
theorem n798 (n : GNet) (hz : n.sz ≤ 1048576) : Fresh Gm 798 [n.enc] n.enc := by
  unfold GNet.sz at hz
  refine Fresh.intro [] [] g798 (by kernel_rfl) rfl (by simp [AV.trees, go_sem]) (GNet.plx n) ?_
  simp only [F798, vparams, go_sem, reduceIte, eq_self]
  refine lbox_ok rfl ?_
  simp only [go_sem, Nat.reduceEqDiff, reduceIte, eq_self, List.length_map]
  refine mks_cap (n := 0) (by omega) (by omega) ?_
  simp only [go_sem, Nat.reduceEqDiff, reduceIte, List.length_cons, List.length_nil, Nat.reduceAdd, eq_self, List.length_map]
  refine Sem.loop (fun i : Nat => i ≤ n.Agents.length) (fun i => (⟨[(14, .int .i64 (i : Nat)), (13, .int .i64 (n.Agents.length : Nat)), (12, .lst 5 (n.Agents.map GAgent.enc) false)], [(3, .agg [.slice 5 0 0 i false]), (2, .agg [.nils])], .row 5 (lays ((n.Agents.take i).map GAgent.enc) 1).1 true :: (lays ((n.Agents.take i).map GAgent.enc) 1).2⟩ : VSt)) (fun i => n.Agents.length - i) 0 (by kernel_rfl) (Nat.zero_le _) (Can.sub (by simp [go_sem]) (by simp [go_sem])) ?_
  rintro i hi
  simp only [go_sem, Nat.reduceEqDiff, reduceIte, eq_self]
  refine cnd_split ?_ ?_ <;> intro hc <;> simp only [hc, go_sem, Nat.reduceEqDiff, reduceIte, eq_self]
  · have hlt : i < n.Agents.length := by have := of_decide_eq_true hc; omega
    have hsz : GAgent.sz n.Agents[i] ≤ sumN GAgent.sz n.Agents := le_sumN (f := GAgent.sz) (List.getElem_mem hlt)
    simp only [List.getElem?_map, List.getElem?_eq_getElem hlt, Option.map_some, go_sem, Nat.reduceEqDiff, reduceIte, eq_self]
    refine lst_all (k := 5) (by rfl) (by rfl) (by exact ⟨_, rfl⟩) (by decide) ?_
    simp only [go_sem, Nat.reduceEqDiff, reduceIte, Bool.not_true, List.getElem?_cons_zero, eq_self]
    refine call_fresh (n1085 n.Agents[i] (by omega)) ?_
    simp only [go_sem, List.length_cons]
    refine bsl_one rfl (by rw [lay_cellsLen (GAgent.plx _)]; rfl) ?_
    simp only [go_sem, Nat.reduceEqDiff, reduceIte, eq_self]
    have hA : (lays ((n.Agents.take i).map GAgent.enc) 1).1.length = i := by rw [lays_length]; simp; omega
    refine app_one (len := i) (el := (lays ((n.Agents.take i).map GAgent.enc) 1).1) last_at rfl hA (by omega) ?_
    simp only [go_sem, Nat.reduceEqDiff, reduceIte, eq_self]
    simp only [wrap_succ (show i < 4611686018427387904 by omega)]
    refine loopQ_nrm (i + 1) (by omega) (by omega) ?_
    have e : (n.Agents.take (i + 1)).map GAgent.enc = (n.Agents.take i).map GAgent.enc ++ [GAgent.enc n.Agents[i]] := by
      rw [List.take_succ_eq_append_getElem hlt, List.map_append]; rfl
    refine Can.push (w := 5) (ps := []) (A := (n.Agents.take i).map GAgent.enc) (t := n.Agents[i].enc) (b := 0) rfl (pls_map GAgent.plx _) (GAgent.plx _) rfl rfl ?_ ?_
      ⟨⟨_, rfl, .tree rfl⟩, ⟨_, rfl, .tree rfl⟩, ⟨_, rfl, .tree (by simp [AV.tree, trees_map GAgent.isSh.tree])⟩, trivial⟩ ⟨⟨_, rfl, .agg rfl (VR2s.cons (.slice (rmu_b.trans ?_)) VR2s.nil).2⟩, ⟨_, rfl, .tree rfl⟩, trivial⟩
    · simp only [lays, lays_len, List.cons_append, List.nil_append, List.set_cons_zero, List.append_assoc, Nat.zero_add, Nat.add_comm 1]
    · rw [e]; simp only [lays, List.nil_append, Nat.zero_add]
    · simp only [List.length_append, List.length_cons, List.length_nil, lays_len, lay_len]; congr 2; omega
  · obtain rfl : i = n.Agents.length := by have := of_decide_eq_false hc; omega
    simp only [List.take_length]
    exact finF_at (t := n.enc) (pre := []) (post := []) (GNet.plx n) (by simp [packed, GNet.layE]) (by simp [GNet.layE, lay])
end Go.Ab
namespace Go.Ab
open Go
set_option maxRecDepth 10000
set_option maxHeartbeats 2000000
theorem n797 (xs : List GNet) (hz : xs.length + sumN GNet.sz xs ≤ 1048576) : Fresh Gm 797 [.lst 1 (xs.map GNet.enc) false] (.lst 1 (xs.map GNet.enc) false) := by
  refine Fresh.intro [] [] g797 (by kernel_rfl) rfl (by simp [AV.trees, AV.tree, trees_map GNet.isSh.tree]) (pls_map GNet.plx xs) ?_
  simp only [F797, vparams, go_sem, Nat.reduceEqDiff, reduceIte, eq_self, List.length_map]
  refine Sem.loop (fun i : Nat => i ≤ xs.length) (fun i => (⟨[(8, .int .i64 (i : Nat)), (7, .int .i64 (xs.length : Nat)), (6, .lst 1 (xs.map GNet.enc) false), (3, .slice 1 0 0 i false)], [], .row 1 (lays ((xs.take i).map GNet.enc) 1).1 true :: (lays ((xs.take i).map GNet.enc) 1).2⟩ : VSt)) (fun i => xs.length - i) 0 (by kernel_rfl) (Nat.zero_le _) (Can.renum [none] rfl ⟨.ph, trivial⟩ ⟨⟨_, rfl, .tree rfl⟩, ⟨_, rfl, .tree rfl⟩, ⟨_, rfl, .tree (by simp [AV.tree, trees_map GNet.isSh.tree])⟩, ⟨_, rfl, .ph rfl⟩, trivial⟩ trivial) ?_
  rintro i hi
  simp only [go_sem, Nat.reduceEqDiff, reduceIte, eq_self]
  refine cnd_split ?_ ?_ <;> intro hc <;> simp only [hc, go_sem, Nat.reduceEqDiff, reduceIte, eq_self]
  · have hlt : i < xs.length := by have := of_decide_eq_true hc; omega
    have hsz : GNet.sz xs[i] ≤ sumN GNet.sz xs := le_sumN (f := GNet.sz) (List.getElem_mem hlt)
    simp only [List.getElem?_map, List.getElem?_eq_getElem hlt, Option.map_some, go_sem, Nat.reduceEqDiff, reduceIte, Bool.not_true, eq_self]
    refine call_fresh (n798 xs[i] (by omega)) ?_
    simp only [go_sem, List.length_cons]
    refine bsl_one rfl (by rw [lay_cellsLen (GNet.plx _)]; rfl) ?_
    simp only [go_sem, Nat.reduceEqDiff, reduceIte, eq_self]
    have hA : (lays ((xs.take i).map GNet.enc) 1).1.length = i := by rw [lays_length]; simp; omega
    refine app_one (len := i) (el := (lays ((xs.take i).map GNet.enc) 1).1) last_at rfl hA (by omega) ?_
    simp only [go_sem, Nat.reduceEqDiff, reduceIte, eq_self]
    simp only [wrap_succ (show i < 4611686018427387904 by omega)]
    refine loopQ_nrm (i + 1) (by omega) (by omega) ?_
    have e : (xs.take (i + 1)).map GNet.enc = (xs.take i).map GNet.enc ++ [GNet.enc xs[i]] := by
      rw [List.take_succ_eq_append_getElem hlt, List.map_append]; rfl
    refine Can.push (w := 1) (ps := []) (A := (xs.take i).map GNet.enc) (t := xs[i].enc) (b := 0) rfl (pls_map GNet.plx _) (GNet.plx _) rfl rfl ?_ ?_
      ⟨⟨_, rfl, .tree rfl⟩, ⟨_, rfl, .tree rfl⟩, ⟨_, rfl, .tree (by simp [AV.tree, trees_map GNet.isSh.tree])⟩, ⟨_, rfl, .slice (rmu_b.trans ?_)⟩, trivial⟩ trivial
    · simp only [lays, lays_len, List.cons_append, List.nil_append, List.set_cons_zero, List.append_assoc, Nat.zero_add, Nat.add_comm 1]
    · rw [e]; simp only [lays, List.nil_append, Nat.zero_add]
    · simp only [List.length_append, List.length_cons, List.length_nil, lays_len, lay_len]; congr 2; omega
  · obtain rfl : i = xs.length := by have := of_decide_eq_false hc; omega
    simp only [List.take_length]
    exact finF_at (t := .lst 1 (xs.map GNet.enc) false) (pre := []) (post := []) (pls_map GNet.plx xs) (by simp [packed, lay]) (by simp [lay])
theorem n429 (d : GDebugger) (hz : d.sz ≤ 1048576) : Fresh Gm 429 [d.enc] d.enc := by
  unfold GDebugger.sz at hz
  have zn : d.Net.sz ≤ 1048576 := by omega
  refine Fresh.intro [] [] g429 (by kernel_rfl) rfl (by simp [AV.trees, go_sem]) (GDebugger.plx d) ?_
  simp only [F429, vparams, go_sem, reduceIte, eq_self]
  refine lbox_ok rfl ?_
  simp only [GDebugger.enc]
  simp only [go_sem, Nat.reduceEqDiff, reduceIte, Bool.not_true, List.getElem?_cons_zero, List.getElem?_cons_succ, eq_self]
  refine call_fresh (n797 d.Book (by omega)) ?_
  simp only [go_sem, lay_l1, List.nil_append, Nat.reduceEqDiff, reduceIte, Bool.not_true, List.length_nil, eq_self, List.length_map]
  refine call_fresh (n401 d.Schedule (by omega)) ?_
  simp only [go_sem, lay_l1, lay_len, Nat.reduceEqDiff, reduceIte, Bool.not_true, eq_self, List.length_map]
  refine call_fresh (n798 d.Net (by omega)) ?_
  simp only [go_sem, GNet.layE, List.append_nil, List.length_append, lay_len, Nat.reduceEqDiff, reduceIte, Bool.not_true, eq_self]
  refine call_fresh (n799 d.Origins (by omega)) ?_
  simp only [go_sem, lay_l1, List.length_append, lay_len, Nat.reduceEqDiff, reduceIte, Bool.not_true, eq_self, List.length_map]
  refine call_fresh (n800 d.Breaks (by omega)) ?_
  simp only [go_sem, lay_l1, List.length_append, lay_len, Nat.reduceEqDiff, reduceIte, eq_self, List.length_map]
  have hB : 0 < AV.rows (.lst 1 (d.Book.map GNet.enc) false) := by simp only [AV.rows]; omega
  have hS : 0 < AV.rows (.lst 1 (d.Schedule.map encI) false) := by simp only [AV.rows]; omega
  have hN : 0 < AV.rows (.lst 5 (d.Net.Agents.map GAgent.enc) false) := by simp only [AV.rows]; omega
  have hO : 0 < AV.rows (.lst 3 (d.Origins.map GOrigin.enc) false) := by simp only [AV.rows]; omega
  have hK : 0 < AV.rows (.lst 2 (d.Breaks.map GBreak.enc) false) := by simp only [AV.rows]; omega
  have hps : AV.pls [.lst 1 (d.Book.map GNet.enc) false, .lst 1 (d.Schedule.map encI) false, .lst 5 (d.Net.Agents.map GAgent.enc) false, .lst 3 (d.Origins.map GOrigin.enc) false, .lst 2 (d.Breaks.map GBreak.enc) false] = true := by simp only [AV.pls, AV.pl, pls_map GNet.plx, pls_map (enc := encI) (fun _ => rfl), pls_map GAgent.plx, pls_map GOrigin.plx, pls_map GBreak.plx, Bool.and_self]
  have hb : AV.rowss [.lst 1 (d.Book.map GNet.enc) false, .lst 1 (d.Schedule.map encI) false, .lst 5 (d.Net.Agents.map GAgent.enc) false, .lst 3 (d.Origins.map GOrigin.enc) false, .lst 2 (d.Breaks.map GBreak.enc) false] = AV.rows (.lst 1 (d.Book.map GNet.enc) false) + AV.rows (.lst 1 (d.Schedule.map encI) false) + AV.rows (.lst 5 (d.Net.Agents.map GAgent.enc) false) + AV.rows (.lst 3 (d.Origins.map GOrigin.enc) false) + AV.rows (.lst 2 (d.Breaks.map GBreak.enc) false) := by simp only [AV.rowss]; omega
  have hL : (lays [.lst 1 (d.Book.map GNet.enc) false, .lst 1 (d.Schedule.map encI) false, .lst 5 (d.Net.Agents.map GAgent.enc) false, .lst 3 (d.Origins.map GOrigin.enc) false, .lst 2 (d.Breaks.map GBreak.enc) false] 0).2.length = AV.rows (.lst 1 (d.Book.map GNet.enc) false) + AV.rows (.lst 1 (d.Schedule.map encI) false) + AV.rows (.lst 5 (d.Net.Agents.map GAgent.enc) false) + AV.rows (.lst 3 (d.Origins.map GOrigin.enc) false) + AV.rows (.lst 2 (d.Breaks.map GBreak.enc) false) := by rw [lays_len, hb]
  refine Sem.loop (fun i : Nat => i ≤ d.Points.length) (fun i => (⟨[(31, .int .i64 (i : Nat)), (30, .int .i64 (d.Points.length : Nat)), (29, .lst 3 (d.Points.map GCheckpoint.enc) false)], [(1, .agg [.slice 1 0 0 d.Book.length false, .slice 1 (AV.rows (.lst 1 (d.Book.map GNet.enc) false)) 0 d.Schedule.length false, .int .i64 d.Every, .int .i64 d.At, .slice 5 (AV.rows (.lst 1 (d.Book.map GNet.enc) false) + AV.rows (.lst 1 (d.Schedule.map encI) false)) 0 d.Net.Agents.length false, .slice 3 (AV.rows (.lst 1 (d.Book.map GNet.enc) false) + AV.rows (.lst 1 (d.Schedule.map encI) false) + AV.rows (.lst 5 (d.Net.Agents.map GAgent.enc) false)) 0 d.Origins.length false, .slice 2 (AV.rows (.lst 1 (d.Book.map GNet.enc) false) + AV.rows (.lst 1 (d.Schedule.map encI) false) + AV.rows (.lst 5 (d.Net.Agents.map GAgent.enc) false) + AV.rows (.lst 3 (d.Origins.map GOrigin.enc) false)) 0 d.Breaks.length false, .slice 3 (AV.rows (.lst 1 (d.Book.map GNet.enc) false) + AV.rows (.lst 1 (d.Schedule.map encI) false) + AV.rows (.lst 5 (d.Net.Agents.map GAgent.enc) false) + AV.rows (.lst 3 (d.Origins.map GOrigin.enc) false) + AV.rows (.lst 2 (d.Breaks.map GBreak.enc) false)) 0 i false]), (2, .agg [.nils, .nils, .int .i64 0, .int .i64 0, .nils, .nils, .nils, .nils])], (lays [.lst 1 (d.Book.map GNet.enc) false, .lst 1 (d.Schedule.map encI) false, .lst 5 (d.Net.Agents.map GAgent.enc) false, .lst 3 (d.Origins.map GOrigin.enc) false, .lst 2 (d.Breaks.map GBreak.enc) false] 0).2 ++ .row 3 (lays ((d.Points.take i).map GCheckpoint.enc) (AV.rows (.lst 1 (d.Book.map GNet.enc) false) + AV.rows (.lst 1 (d.Schedule.map encI) false) + AV.rows (.lst 5 (d.Net.Agents.map GAgent.enc) false) + AV.rows (.lst 3 (d.Origins.map GOrigin.enc) false) + AV.rows (.lst 2 (d.Breaks.map GBreak.enc) false) + 1)).1 true :: (lays ((d.Points.take i).map GCheckpoint.enc) (AV.rows (.lst 1 (d.Book.map GNet.enc) false) + AV.rows (.lst 1 (d.Schedule.map encI) false) + AV.rows (.lst 5 (d.Net.Agents.map GAgent.enc) false) + AV.rows (.lst 3 (d.Origins.map GOrigin.enc) false) + AV.rows (.lst 2 (d.Breaks.map GBreak.enc) false) + 1)).2⟩ : VSt)) (fun i => d.Points.length - i) 0 (by kernel_rfl) (Nat.zero_le _) (Can.start hps hb ?_ ⟨⟨_, rfl, .tree rfl⟩, ⟨_, rfl, .tree rfl⟩, ⟨_, rfl, .tree (by simp [AV.tree, trees_map GCheckpoint.isSh.tree])⟩, trivial⟩ ⟨⟨_, rfl, .agg rfl (VR2s.cons (.slice (smu_lo (by omega))) (VR2s.cons (.slice (smu_lo (by omega))) (VR2s.cons (.tree rfl) (VR2s.cons (.tree rfl) (VR2s.cons (.slice (smu_lo (by omega))) (VR2s.cons (.slice (smu_lo (by omega))) (VR2s.cons (.slice (smu_lo (by omega))) (VR2s.cons (.ph smu_b) VR2s.nil)))))))).2⟩, ⟨_, rfl, .tree rfl⟩, trivial⟩) ?_
  · simp only [lays, lay_len, Nat.zero_add, List.append_nil, List.append_assoc]
  rintro i hi
  simp only [go_sem, Nat.reduceEqDiff, reduceIte, eq_self]
  refine cnd_split ?_ ?_ <;> intro hc <;> simp only [hc, go_sem, Nat.reduceEqDiff, reduceIte, eq_self]
  · have hlt : i < d.Points.length := by have := of_decide_eq_true hc; omega
    have hsz : GCheckpoint.sz d.Points[i] ≤ sumN GCheckpoint.sz d.Points := le_sumN (f := GCheckpoint.sz) (List.getElem_mem hlt)
    have hsz2 : GCheckpoint.sz d.Points[i] = GNet.sz d.Points[i].Net + d.Points[i].Origins.length := rfl
    simp only [List.getElem?_map, List.getElem?_eq_getElem hlt, Option.map_some, go_sem, Nat.reduceEqDiff, reduceIte, eq_self]
    refine lst_all (k := 3) (by rfl) (by rfl) (by exact ⟨_, rfl⟩) (by decide) ?_
    simp only [go_sem, Nat.reduceEqDiff, reduceIte, Bool.not_true, List.getElem?_cons_zero, List.getElem?_cons_succ, eq_self]
    have en : (lays [.lst 1 (d.Book.map GNet.enc) false, .lst 1 (d.Schedule.map encI) false, .lst 5 (d.Net.Agents.map GAgent.enc) false, .lst 3 (d.Origins.map GOrigin.enc) false, .lst 2 (d.Breaks.map GBreak.enc) false] 0).2.length + ((lays ((d.Points.take i).map GCheckpoint.enc) (AV.rows (.lst 1 (d.Book.map GNet.enc) false) + AV.rows (.lst 1 (d.Schedule.map encI) false) + AV.rows (.lst 5 (d.Net.Agents.map GAgent.enc) false) + AV.rows (.lst 3 (d.Origins.map GOrigin.enc) false) + AV.rows (.lst 2 (d.Breaks.map GBreak.enc) false) + 1)).2.length + 1) = AV.rows (.lst 1 (d.Book.map GNet.enc) false) + AV.rows (.lst 1 (d.Schedule.map encI) false) + AV.rows (.lst 5 (d.Net.Agents.map GAgent.enc) false) + AV.rows (.lst 3 (d.Origins.map GOrigin.enc) false) + AV.rows (.lst 2 (d.Breaks.map GBreak.enc) false) + 1 + AV.rowss ((d.Points.take i).map GCheckpoint.enc) := by rw [hL, lays_len]; omega
    refine call_fresh (n798 d.Points[i].Net (by omega)) ?_
    simp only [go_sem, GNet.layE, List.append_nil, List.length_append, en, Nat.reduceEqDiff, reduceIte, Bool.not_true, List.length_cons, eq_self]
    refine call_fresh (n799 d.Points[i].Origins (by omega)) ?_
    simp only [go_sem, lay_l1, List.length_append, lay_len, en, Nat.reduceEqDiff, reduceIte, List.length_cons, List.length_nil, Nat.reduceAdd, eq_self, List.length_map]
    refine bsl_one rfl (by rfl) ?_
    simp only [go_sem, List.length_append, lay_len, en, Nat.reduceEqDiff, reduceIte, List.length_cons, eq_self]
    have hA : (lays ((d.Points.take i).map GCheckpoint.enc) (AV.rows (.lst 1 (d.Book.map GNet.enc) false) + AV.rows (.lst 1 (d.Schedule.map encI) false) + AV.rows (.lst 5 (d.Net.Agents.map GAgent.enc) false) + AV.rows (.lst 3 (d.Origins.map GOrigin.enc) false) + AV.rows (.lst 2 (d.Breaks.map GBreak.enc) false) + 1)).1.length = i := by rw [lays_length]; simp; omega
    refine app_one (len := i) (el := (lays ((d.Points.take i).map GCheckpoint.enc) (AV.rows (.lst 1 (d.Book.map GNet.enc) false) + AV.rows (.lst 1 (d.Schedule.map encI) false) + AV.rows (.lst 5 (d.Net.Agents.map GAgent.enc) false) + AV.rows (.lst 3 (d.Origins.map GOrigin.enc) false) + AV.rows (.lst 2 (d.Breaks.map GBreak.enc) false) + 1)).1) (x := (lay d.Points[i].enc (AV.rows (.lst 1 (d.Book.map GNet.enc) false) + AV.rows (.lst 1 (d.Schedule.map encI) false) + AV.rows (.lst 5 (d.Net.Agents.map GAgent.enc) false) + AV.rows (.lst 3 (d.Origins.map GOrigin.enc) false) + AV.rows (.lst 2 (d.Breaks.map GBreak.enc) false) + 1 + AV.rowss ((d.Points.take i).map GCheckpoint.enc))).1) ?_ ?_ hA (by omega) ?_
    · simp only [GCheckpoint.layE]
      rw [List.getElem?_append_right (by simp only [List.length_append, lay_len, List.length_cons]; omega)]
      simp only [List.length_append, lay_len, List.length_cons, en]
      simp
    · simp only [List.append_assoc, List.cons_append]; exact midO_at hL
    simp only [go_sem, List.length_append, lay_len, en, Nat.reduceEqDiff, reduceIte, List.length_cons, List.length_nil, Nat.reduceAdd, eq_self]
    simp only [wrap_succ (show i < 4611686018427387904 by omega)]
    refine loopQ_nrm (i + 1) (by omega) (by omega) ?_
    have e : (d.Points.take (i + 1)).map GCheckpoint.enc = (d.Points.take i).map GCheckpoint.enc ++ [GCheckpoint.enc d.Points[i]] := by
      rw [List.take_succ_eq_append_getElem hlt, List.map_append]; rfl
    refine Can.push (w := 3) (ps := [.lst 1 (d.Book.map GNet.enc) false, .lst 1 (d.Schedule.map encI) false, .lst 5 (d.Net.Agents.map GAgent.enc) false, .lst 3 (d.Origins.map GOrigin.enc) false, .lst 2 (d.Breaks.map GBreak.enc) false]) (A := (d.Points.take i).map GCheckpoint.enc) (t := d.Points[i].enc) hps (pls_map GCheckpoint.plx _) (GCheckpoint.plx _) hb rfl ?_ ?_
      ⟨⟨_, rfl, .tree rfl⟩, ⟨_, rfl, .tree rfl⟩, ⟨_, rfl, .tree (by simp [AV.tree, trees_map GCheckpoint.isSh.tree])⟩, trivial⟩ ⟨⟨_, rfl, .agg rfl (VR2s.cons (.slice (rmu_lo (by omega))) (VR2s.cons (.slice (rmu_lo (by omega))) (VR2s.cons (.tree rfl) (VR2s.cons (.tree rfl) (VR2s.cons (.slice (rmu_lo (by omega))) (VR2s.cons (.slice (rmu_lo (by omega))) (VR2s.cons (.slice (rmu_lo (by omega))) (VR2s.cons (.slice (rmu_b.trans ?_)) VR2s.nil)))))))).2⟩, ⟨_, rfl, .tree rfl⟩, trivial⟩
    · simp only [List.append_assoc, List.cons_append]
      rw [midO_set hL]
      simp only [GCheckpoint.layE, List.append_assoc, List.cons_append, List.nil_append, List.append_nil]
    · rw [e]
    · simp only [GCheckpoint.rowsE]; congr 2; omega
  · obtain rfl : i = d.Points.length := by have := of_decide_eq_false hc; omega
    simp only [List.take_length]
    refine lst_all (k := 8) (by rfl) (by rfl) (by exact ⟨_, rfl⟩) (by decide) ?_
    simp only [go_sem, Nat.reduceEqDiff, reduceIte, eq_self]
    exact finF_at (t := d.enc) (pre := []) (post := []) (GDebugger.plx d) (by simp [packed, GDebugger.layE, Nat.add_assoc]) (by simp only [List.length_nil, GDebugger.layE, lays, lay_len, Nat.zero_add, List.nil_append, List.append_nil, List.append_assoc]; rfl)
end Go.Ab
namespace Go.Ab
open Go
set_option maxRecDepth 10000
set_option maxHeartbeats 2000000
theorem n402 (xs : List Int) (hz : xs.length ≤ 4194304) : Fresh Gm 402 [.lst 1 (xs.map encI) false] (.lst 1 (xs.map encI) false) := by
  refine Fresh.intro [] [] g402 (by kernel_rfl) rfl (by simp [AV.trees, AV.tree, trees_map shI.tree]) (pls_map (fun _ => rfl) xs) ?_
  simp only [F402, vparams, go_sem, Nat.reduceEqDiff, reduceIte, eq_self]
  refine app_lit Els.lst (by simp; omega) ?_
  simp only [go_sem, Nat.reduceEqDiff, reduceIte, List.length_nil, eq_self, List.length_map]
  exact finF_at (t := .lst 1 (xs.map encI) false) (pre := []) (post := []) (pls_map (fun _ => rfl) xs) (by simp [packed, lay]) (by simp [lay, lI])
theorem n837 (x : GAgent) (hz : x.sz ≤ 1048576) : Fresh Gm 837 [.ept x.enc 0] x.enc := by
  unfold GAgent.sz at hz
  refine Fresh.intro [] [] g837 (by kernel_rfl) rfl (by simp [AV.trees, AV.tree, go_sem]) (GAgent.plx x) ?_
  simp only [F837, vparams, go_sem, Nat.reduceEqDiff, reduceIte, Bool.not_false, Nat.reduceAdd, eq_self]
  refine call_fresh (n402 x.Data (by omega)) ?_
  simp only [go_sem, lay_l1, List.nil_append, Nat.reduceEqDiff, reduceIte, List.length_nil, eq_self, List.length_map]
  refine app_litc Els.lst (by simp; omega) ?_
  simp only [go_sem, lay_len, Nat.reduceEqDiff, reduceIte, List.length_cons, List.length_nil, Nat.reduceAdd, eq_self, List.length_map]
  refine lst_all (k := 5) (by rfl) (by rfl) (by exact ⟨_, rfl⟩) (by decide) ?_
  simp only [go_sem, reduceIte, eq_self]
  exact finF_at (t := x.enc) (pre := []) (post := []) (GAgent.plx x) (by simp [packed, GAgent.layE]) (by simp [GAgent.layE, lay, GPort.flat])
theorem n489 (n : GNet) (hz : n.sz ≤ 1048576) : Fresh Gm 489 [.ept n.enc 0] n.enc := by
  unfold GNet.sz at hz
  refine Fresh.intro [] [] g489 (by kernel_rfl) rfl (by simp [AV.trees, AV.tree, go_sem]) (GNet.plx n) ?_
  simp only [F489, vparams, go_sem, Nat.reduceEqDiff, reduceIte, eq_self]
  refine Sem.loop (fun i : Nat => i ≤ n.Agents.length) (fun i => (⟨[(0, .ept n.enc 0), (4, .int .i64 (i : Nat))], [(2, .agg [.nils]), (3, .agg [.slice 5 0 0 i false])], .row 5 (lays ((n.Agents.take i).map GAgent.enc) 1).1 true :: (lays ((n.Agents.take i).map GAgent.enc) 1).2⟩ : VSt)) (fun i => n.Agents.length - i) 0 (by kernel_rfl) (Nat.zero_le _) (Can.renum [none] rfl ⟨.ph, trivial⟩ ⟨⟨_, rfl, .tree (by simp only [AV.tree, GNet.tr])⟩, ⟨_, rfl, .tree rfl⟩, trivial⟩ ⟨⟨_, rfl, .tree rfl⟩, ⟨_, rfl, .agg rfl (VR2s.cons (.ph rfl) VR2s.nil).2⟩, trivial⟩) ?_
  rintro i hi
  simp only [go_sem, Nat.reduceEqDiff, reduceIte, Nat.reduceAdd, eq_self, List.length_map]
  refine cnd_split ?_ ?_ <;> intro hc <;> simp only [hc, go_sem, Nat.reduceEqDiff, reduceIte, Nat.reduceAdd, List.getElem?_cons_zero, eq_self]
  · have hlt : i < n.Agents.length := by have := of_decide_eq_true hc; omega
    have hsz : GAgent.sz n.Agents[i] ≤ sumN GAgent.sz n.Agents := le_sumN (f := GAgent.sz) (List.getElem_mem hlt)
    simp only [List.getElem?_map, List.getElem?_eq_getElem hlt, Option.map_some, go_sem, Nat.reduceEqDiff, reduceIte, Bool.not_true, eq_self]
    refine call_fresh (n837 n.Agents[i] (by omega)) ?_
    simp only [go_sem, List.length_cons]
    refine bsl_one rfl (by rw [lay_cellsLen (GAgent.plx _)]; rfl) ?_
    simp only [go_sem, Nat.reduceEqDiff, reduceIte, eq_self]
    have hA : (lays ((n.Agents.take i).map GAgent.enc) 1).1.length = i := by rw [lays_length]; simp; omega
    refine app_one (len := i) (el := (lays ((n.Agents.take i).map GAgent.enc) 1).1) last_at rfl hA (by omega) ?_
    simp only [go_sem, Nat.reduceEqDiff, reduceIte, eq_self]
    simp only [wrap_succ (show i < 4611686018427387904 by omega)]
    refine loopQ_nrm (i + 1) (by omega) (by omega) ?_
    have e : (n.Agents.take (i + 1)).map GAgent.enc = (n.Agents.take i).map GAgent.enc ++ [GAgent.enc n.Agents[i]] := by
      rw [List.take_succ_eq_append_getElem hlt, List.map_append]; rfl
    refine Can.push (w := 5) (ps := []) (A := (n.Agents.take i).map GAgent.enc) (t := n.Agents[i].enc) (b := 0) rfl (pls_map GAgent.plx _) (GAgent.plx _) rfl rfl ?_ ?_
      ⟨⟨_, rfl, .tree (by simp only [AV.tree, GNet.tr])⟩, ⟨_, rfl, .tree rfl⟩, trivial⟩ ⟨⟨_, rfl, .tree rfl⟩, ⟨_, rfl, .agg rfl (VR2s.cons (.slice (rmu_b.trans ?_)) VR2s.nil).2⟩, trivial⟩
    · simp only [lays, lays_len, List.cons_append, List.nil_append, List.set_cons_zero, List.append_assoc, Nat.zero_add, Nat.add_comm 1]
    · rw [e]; simp only [lays, List.nil_append, Nat.zero_add]
    · simp only [List.length_append, List.length_cons, List.length_nil, lays_len, lay_len]; congr 2; omega
  · obtain rfl : i = n.Agents.length := by have := of_decide_eq_false hc; omega
    simp only [List.take_length]
    exact finF_at (t := n.enc) (pre := []) (post := []) (GNet.plx n) (by simp [packed, GNet.layE]) (by simp [GNet.layE, lay])
theorem n795 (x : GCheckpoint) (hz : x.sz ≤ 1048576) : Fresh Gm 795 [.ept x.enc 0] x.enc := by
  unfold GCheckpoint.sz at hz
  refine Fresh.intro [] [] g795 (by kernel_rfl) rfl (by simp [AV.trees, AV.tree, go_sem]) (GCheckpoint.plx x) ?_
  simp only [F795, vparams, go_sem, Nat.reduceEqDiff, reduceIte, Bool.not_false, Nat.reduceAdd, eq_self]
  have conv : Cvs [] [.ept x.enc 1] [.ept x.Net.enc 0] := Cvs.cons (.sub GCheckpoint.tr (GCheckpoint.q1_1) (by rw [GNet.ln]; decide)) Cvs.nil
  refine call_freshL conv (n489 x.Net (by omega)) ?_
  simp only [go_sem, GNet.layE, List.nil_append, List.append_nil, Nat.reduceEqDiff, reduceIte, List.length_nil, eq_self]
  refine app_litc Els.lst (by simp; omega) ?_
  simp only [go_sem, lay_len, Nat.reduceEqDiff, reduceIte, List.length_cons, List.length_nil, Nat.reduceAdd, eq_self, List.length_map]
  refine lst_all (k := 3) (by rfl) (by rfl) (by exact ⟨_, rfl⟩) (by decide) ?_
  simp only [go_sem, reduceIte, eq_self]
  exact finF_at (t := x.enc) (pre := []) (post := []) (GCheckpoint.plx x) (by simp [packed, GCheckpoint.layE]) (by simp [GCheckpoint.layE, lay, GOrigin.flat])
end Go.Ab
namespace Go.Ab
open Go
set_option maxRecDepth 10000
set_option maxHeartbeats 2000000
theorem n427 (d : GDebugger) (hz : d.sz ≤ 1048576) : Fresh Gm 427 [.ept d.enc 0] d.enc := by
  unfold GDebugger.sz at hz
  have zn : d.Net.sz ≤ 1048576 := by omega
  refine Fresh.intro [] [] g427 (by kernel_rfl) rfl (by simp [AV.trees, AV.tree, go_sem]) (GDebugger.plx d) ?_
  simp only [F427, vparams, go_sem, Nat.reduceEqDiff, reduceIte, Bool.not_false, Nat.reduceAdd, eq_self]
  refine call_fresh (n402 d.Schedule (by omega)) ?_
  simp only [go_sem, lay_l1, List.nil_append, Nat.reduceEqDiff, reduceIte, Bool.not_false, List.length_nil, eq_self, List.length_map]
  have conv : ∀ h, Cvs h [.ept d.enc 4] [.ept d.Net.enc 0] := fun h => Cvs.cons (.sub GDebugger.tr (GDebugger.q4_1) (by rw [GNet.ln]; decide)) Cvs.nil
  refine call_freshL (conv _) (n489 d.Net (by omega)) ?_
  simp only [go_sem, GNet.layE, List.append_nil, lay_len, Nat.reduceEqDiff, reduceIte, eq_self]
  refine app_litc Els.lst (by simp; omega) ?_
  simp only [go_sem, List.length_append, lay_len, Nat.reduceEqDiff, reduceIte, eq_self, List.length_map]
  refine app_litc Els.lst (by simp; omega) ?_
  simp only [go_sem, List.length_append, lay_len, Nat.reduceEqDiff, reduceIte, List.length_cons, List.length_nil, Nat.reduceAdd, eq_self, List.length_map]
  refine lst_all (k := 8) (by rfl) (by rfl) (by exact ⟨_, rfl⟩) (by decide) ?_
  simp only [go_sem]
  have hB : 0 < AV.rows (.lst 1 (d.Book.map GNet.enc) false) := by simp only [AV.rows]; omega
  have hS : 0 < AV.rows (.lst 1 (d.Schedule.map encI) false) := by simp only [AV.rows]; omega
  have hN : 0 < AV.rows (.lst 5 (d.Net.Agents.map GAgent.enc) false) := by simp only [AV.rows]; omega
  have hO : 0 < AV.rows (.lst 3 (d.Origins.map GOrigin.enc) false) := by simp only [AV.rows]; omega
  have hK : 0 < AV.rows (.lst 2 (d.Breaks.map GBreak.enc) false) := by simp only [AV.rows]; omega
  have rO : AV.rows (.lst 3 (d.Origins.map GOrigin.enc) false) = 1 := by have := GOrigin.flat d.Origins 0; have h2 := lays_len (d.Origins.map GOrigin.enc) 0; rw [this] at h2; simp only [AV.rows, ← h2, List.length_nil]
  have rK : AV.rows (.lst 2 (d.Breaks.map GBreak.enc) false) = 1 := by have := GBreak.flat d.Breaks 0; have h2 := lays_len (d.Breaks.map GBreak.enc) 0; rw [this] at h2; simp only [AV.rows, ← h2, List.length_nil]
  have hp1 : AV.pls [.lst 1 (d.Schedule.map encI) false, .lst 5 (d.Net.Agents.map GAgent.enc) false, .lst 3 (d.Origins.map GOrigin.enc) false, .lst 2 (d.Breaks.map GBreak.enc) false] = true := by simp only [AV.pls, AV.pl, pls_map (enc := encI) (fun _ => rfl), pls_map GAgent.plx, pls_map GOrigin.plx, pls_map GBreak.plx, Bool.and_self]
  have hb1 : AV.rowss [.lst 1 (d.Schedule.map encI) false, .lst 5 (d.Net.Agents.map GAgent.enc) false, .lst 3 (d.Origins.map GOrigin.enc) false, .lst 2 (d.Breaks.map GBreak.enc) false] = AV.rows (.lst 1 (d.Schedule.map encI) false) + AV.rows (.lst 5 (d.Net.Agents.map GAgent.enc) false) + 1 + 1 := by simp only [AV.rowss]; omega
  have hL1 : (lays [.lst 1 (d.Schedule.map encI) false, .lst 5 (d.Net.Agents.map GAgent.enc) false, .lst 3 (d.Origins.map GOrigin.enc) false, .lst 2 (d.Breaks.map GBreak.enc) false] 0).2.length = AV.rows (.lst 1 (d.Schedule.map encI) false) + AV.rows (.lst 5 (d.Net.Agents.map GAgent.enc) false) + 1 + 1 := by rw [lays_len, hb1]
  have hp2 : AV.pls [.lst 1 (d.Schedule.map encI) false, .lst 5 (d.Net.Agents.map GAgent.enc) false, .lst 3 (d.Origins.map GOrigin.enc) false, .lst 2 (d.Breaks.map GBreak.enc) false, .lst 1 (d.Book.map GNet.enc) false] = true := by simp only [AV.pls, AV.pl, pls_map GNet.plx, pls_map (enc := encI) (fun _ => rfl), pls_map GAgent.plx, pls_map GOrigin.plx, pls_map GBreak.plx, Bool.and_self]
  have hb2 : AV.rowss [.lst 1 (d.Schedule.map encI) false, .lst 5 (d.Net.Agents.map GAgent.enc) false, .lst 3 (d.Origins.map GOrigin.enc) false, .lst 2 (d.Breaks.map GBreak.enc) false, .lst 1 (d.Book.map GNet.enc) false] = AV.rows (.lst 1 (d.Schedule.map encI) false) + AV.rows (.lst 5 (d.Net.Agents.map GAgent.enc) false) + 1 + 1 + AV.rows (.lst 1 (d.Book.map GNet.enc) false) := by simp only [AV.rowss]; omega
  have hL2 : (lays [.lst 1 (d.Schedule.map encI) false, .lst 5 (d.Net.Agents.map GAgent.enc) false, .lst 3 (d.Origins.map GOrigin.enc) false, .lst 2 (d.Breaks.map GBreak.enc) false, .lst 1 (d.Book.map GNet.enc) false] 0).2.length = AV.rows (.lst 1 (d.Schedule.map encI) false) + AV.rows (.lst 5 (d.Net.Agents.map GAgent.enc) false) + 1 + 1 + AV.rows (.lst 1 (d.Book.map GNet.enc) false) := by rw [lays_len, hb2]
  refine Sem.loop (fun i : Nat => i ≤ d.Book.length) (fun i => (⟨[(0, .ept d.enc 0), (4, .int .i64 (i : Nat))], [(2, .agg [.nils, .nils, .int .i64 0, .int .i64 0, .nils, .nils, .nils, .nils]), (3, .agg [.slice 1 (AV.rows (.lst 1 (d.Schedule.map encI) false) + AV.rows (.lst 5 (d.Net.Agents.map GAgent.enc) false) + 1 + 1) 0 i false, .slice 1 0 0 d.Schedule.length false, .int .i64 d.Every, .int .i64 d.At, .slice 5 (AV.rows (.lst 1 (d.Schedule.map encI) false)) 0 d.Net.Agents.length false, .slice 3 (AV.rows (.lst 1 (d.Schedule.map encI) false) + AV.rows (.lst 5 (d.Net.Agents.map GAgent.enc) false)) 0 d.Origins.length false, .slice 2 (AV.rows (.lst 1 (d.Schedule.map encI) false) + AV.rows (.lst 5 (d.Net.Agents.map GAgent.enc) false) + 1) 0 d.Breaks.length false, .nils])], (lays [.lst 1 (d.Schedule.map encI) false, .lst 5 (d.Net.Agents.map GAgent.enc) false, .lst 3 (d.Origins.map GOrigin.enc) false, .lst 2 (d.Breaks.map GBreak.enc) false] 0).2 ++ .row 1 (lays ((d.Book.take i).map GNet.enc) (AV.rows (.lst 1 (d.Schedule.map encI) false) + AV.rows (.lst 5 (d.Net.Agents.map GAgent.enc) false) + 1 + 1 + 1)).1 true :: (lays ((d.Book.take i).map GNet.enc) (AV.rows (.lst 1 (d.Schedule.map encI) false) + AV.rows (.lst 5 (d.Net.Agents.map GAgent.enc) false) + 1 + 1 + 1)).2⟩ : VSt)) (fun i => d.Book.length - i) 0 (by kernel_rfl) (Nat.zero_le _) (Can.start hp1 hb1 ?_ ⟨⟨_, rfl, .tree (by simp only [AV.tree, GDebugger.tr])⟩, ⟨_, rfl, .tree rfl⟩, trivial⟩ ⟨⟨_, rfl, .tree rfl⟩, ⟨_, rfl, .agg rfl (VR2s.cons (.ph smu_b) (VR2s.cons (.slice (smu_lo (by omega))) (VR2s.cons (.tree rfl) (VR2s.cons (.tree rfl) (VR2s.cons (.slice (smu_lo (by omega))) (VR2s.cons (.slice (smu_lo (by omega))) (VR2s.cons (.slice (smu_lo (by omega))) (VR2s.cons (.tree rfl) VR2s.nil)))))))).2⟩, trivial⟩) ?_
  · have loO : ∀ n, (lay (.lst 3 (d.Origins.map GOrigin.enc) false) n).2 = [.row 3 (d.Origins.map GOrigin.enc) true] := fun n => by simp only [lay, GOrigin.flat]
    have loK : ∀ n, (lay (.lst 2 (d.Breaks.map GBreak.enc) false) n).2 = [.row 2 (d.Breaks.map GBreak.enc) true] := fun n => by simp only [lay, GBreak.flat]
    simp only [lays, lay_len, loO, loK, Nat.zero_add, List.append_nil, List.append_assoc]
  rintro i hi
  simp only [go_sem, Nat.reduceEqDiff, reduceIte, Nat.reduceAdd, eq_self, List.length_map]
  refine cnd_split ?_ ?_ <;> intro hc <;> simp only [hc, go_sem, Nat.reduceEqDiff, reduceIte, Nat.reduceAdd, List.getElem?_cons_zero, eq_self]
  · have hlt : i < d.Book.length := by have := of_decide_eq_true hc; omega
    have hsz : GNet.sz d.Book[i] ≤ sumN GNet.sz d.Book := le_sumN (f := GNet.sz) (List.getElem_mem hlt)
    simp only [List.getElem?_map, List.getElem?_eq_getElem hlt, Option.map_some, go_sem, Nat.reduceEqDiff, reduceIte, Bool.not_true, eq_self]
    have en : (lays [.lst 1 (d.Schedule.map encI) false, .lst 5 (d.Net.Agents.map GAgent.enc) false, .lst 3 (d.Origins.map GOrigin.enc) false, .lst 2 (d.Breaks.map GBreak.enc) false] 0).2.length + ((lays ((d.Book.take i).map GNet.enc) (AV.rows (.lst 1 (d.Schedule.map encI) false) + AV.rows (.lst 5 (d.Net.Agents.map GAgent.enc) false) + 1 + 1 + 1)).2.length + 1) = AV.rows (.lst 1 (d.Schedule.map encI) false) + AV.rows (.lst 5 (d.Net.Agents.map GAgent.enc) false) + 1 + 1 + 1 + AV.rowss ((d.Book.take i).map GNet.enc) := by rw [hL1, lays_len]; omega
    refine call_fresh (n489 d.Book[i] (by omega)) ?_
    simp only [go_sem, List.length_append, en, List.length_cons]
    refine bsl_one rfl (by rw [lay_cellsLen (GNet.plx _)]; rfl) ?_
    simp only [go_sem, List.length_append, lay_len, en, Nat.reduceEqDiff, reduceIte, List.length_cons, eq_self]
    have hA : (lays ((d.Book.take i).map GNet.enc) (AV.rows (.lst 1 (d.Schedule.map encI) false) + AV.rows (.lst 5 (d.Net.Agents.map GAgent.enc) false) + 1 + 1 + 1)).1.length = i := by rw [lays_length]; simp; omega
    refine app_one (len := i) (el := (lays ((d.Book.take i).map GNet.enc) (AV.rows (.lst 1 (d.Schedule.map encI) false) + AV.rows (.lst 5 (d.Net.Agents.map GAgent.enc) false) + 1 + 1 + 1)).1) (x := (lay d.Book[i].enc (AV.rows (.lst 1 (d.Schedule.map encI) false) + AV.rows (.lst 5 (d.Net.Agents.map GAgent.enc) false) + 1 + 1 + 1 + AV.rowss ((d.Book.take i).map GNet.enc))).1) ?_ ?_ hA (by omega) ?_
    · rw [List.getElem?_append_right (by simp only [List.length_append, lay_len, List.length_cons]; omega)]
      simp only [List.length_append, lay_len, List.length_cons, en]
      simp
    · simp only [List.append_assoc, List.cons_append]; exact midO_at hL1
    simp only [go_sem, List.length_append, lay_len, en, Nat.reduceEqDiff, reduceIte, List.length_cons, List.length_nil, Nat.reduceAdd, eq_self]
    simp only [wrap_succ (show i < 4611686018427387904 by omega)]
    refine loopQ_nrm (i + 1) (by omega) (by omega) ?_
    have e : (d.Book.take (i + 1)).map GNet.enc = (d.Book.take i).map GNet.enc ++ [GNet.enc d.Book[i]] := by
      rw [List.take_succ_eq_append_getElem hlt, List.map_append]; rfl
    refine Can.push (w := 1) (ps := [.lst 1 (d.Schedule.map encI) false, .lst 5 (d.Net.Agents.map GAgent.enc) false, .lst 3 (d.Origins.map GOrigin.enc) false, .lst 2 (d.Breaks.map GBreak.enc) false]) (A := (d.Book.take i).map GNet.enc) (t := d.Book[i].enc) hp1 (pls_map GNet.plx _) (GNet.plx _) hb1 rfl ?_ ?_
      ⟨⟨_, rfl, .tree (by simp only [AV.tree, GDebugger.tr])⟩, ⟨_, rfl, .tree rfl⟩, trivial⟩ ⟨⟨_, rfl, .tree rfl⟩, ⟨_, rfl, .agg rfl (VR2s.cons (.slice (rmu_b.trans ?_)) (VR2s.cons (.slice (rmu_lo (by omega))) (VR2s.cons (.tree rfl) (VR2s.cons (.tree rfl) (VR2s.cons (.slice (rmu_lo (by omega))) (VR2s.cons (.slice (rmu_lo (by omega))) (VR2s.cons (.slice (rmu_lo (by omega))) (VR2s.cons (.tree rfl) VR2s.nil)))))))).2⟩, trivial⟩
    · simp only [List.append_assoc, List.cons_append]
      rw [midO_set hL1]
      simp only [List.append_assoc, List.cons_append, List.nil_append]
    · rw [e]
    · congr 2; omega
  · obtain rfl : i = d.Book.length := by have := of_decide_eq_false hc; omega
    simp only [List.take_length]
    refine Sem.loop (fun i : Nat => i ≤ d.Points.length) (fun i => (⟨[(0, .ept d.enc 0), (5, .int .i64 (i : Nat))], [(2, .agg [.nils, .nils, .int .i64 0, .int .i64 0, .nils, .nils, .nils, .nils]), (3, .agg [.slice 1 (AV.rows (.lst 1 (d.Schedule.map encI) false) + AV.rows (.lst 5 (d.Net.Agents.map GAgent.enc) false) + 1 + 1) 0 d.Book.length false, .slice 1 0 0 d.Schedule.length false, .int .i64 d.Every, .int .i64 d.At, .slice 5 (AV.rows (.lst 1 (d.Schedule.map encI) false)) 0 d.Net.Agents.length false, .slice 3 (AV.rows (.lst 1 (d.Schedule.map encI) false) + AV.rows (.lst 5 (d.Net.Agents.map GAgent.enc) false)) 0 d.Origins.length false, .slice 2 (AV.rows (.lst 1 (d.Schedule.map encI) false) + AV.rows (.lst 5 (d.Net.Agents.map GAgent.enc) false) + 1) 0 d.Breaks.length false, .slice 3 (AV.rows (.lst 1 (d.Schedule.map encI) false) + AV.rows (.lst 5 (d.Net.Agents.map GAgent.enc) false) + 1 + 1 + AV.rows (.lst 1 (d.Book.map GNet.enc) false)) 0 i false])], (lays [.lst 1 (d.Schedule.map encI) false, .lst 5 (d.Net.Agents.map GAgent.enc) false, .lst 3 (d.Origins.map GOrigin.enc) false, .lst 2 (d.Breaks.map GBreak.enc) false, .lst 1 (d.Book.map GNet.enc) false] 0).2 ++ .row 3 (lays ((d.Points.take i).map GCheckpoint.enc) (AV.rows (.lst 1 (d.Schedule.map encI) false) + AV.rows (.lst 5 (d.Net.Agents.map GAgent.enc) false) + 1 + 1 + AV.rows (.lst 1 (d.Book.map GNet.enc) false) + 1)).1 true :: (lays ((d.Points.take i).map GCheckpoint.enc) (AV.rows (.lst 1 (d.Schedule.map encI) false) + AV.rows (.lst 5 (d.Net.Agents.map GAgent.enc) false) + 1 + 1 + AV.rows (.lst 1 (d.Book.map GNet.enc) false) + 1)).2⟩ : VSt)) (fun i => d.Points.length - i) 0 (by kernel_rfl) (Nat.zero_le _) (Can.start hp2 hb2 ?_ ⟨⟨_, rfl, .tree (by simp only [AV.tree, GDebugger.tr])⟩, ⟨_, rfl, .tree rfl⟩, trivial⟩ ⟨⟨_, rfl, .tree rfl⟩, ⟨_, rfl, .agg rfl (VR2s.cons (.slice (smu_lo (by omega))) (VR2s.cons (.slice (smu_lo (by omega))) (VR2s.cons (.tree rfl) (VR2s.cons (.tree rfl) (VR2s.cons (.slice (smu_lo (by omega))) (VR2s.cons (.slice (smu_lo (by omega))) (VR2s.cons (.slice (smu_lo (by omega))) (VR2s.cons (.ph smu_b) VR2s.nil)))))))).2⟩, trivial⟩) ?_
    · rw [show ([.lst 1 (d.Schedule.map encI) false, .lst 5 (d.Net.Agents.map GAgent.enc) false, .lst 3 (d.Origins.map GOrigin.enc) false, .lst 2 (d.Breaks.map GBreak.enc) false, .lst 1 (d.Book.map GNet.enc) false] : List AV) = [.lst 1 (d.Schedule.map encI) false, .lst 5 (d.Net.Agents.map GAgent.enc) false, .lst 3 (d.Origins.map GOrigin.enc) false, .lst 2 (d.Breaks.map GBreak.enc) false] ++ [.lst 1 (d.Book.map GNet.enc) false] from rfl, lays_app, hb1]
      show _ = (lays [.lst 1 (d.Schedule.map encI) false, .lst 5 (d.Net.Agents.map GAgent.enc) false, .lst 3 (d.Origins.map GOrigin.enc) false, .lst 2 (d.Breaks.map GBreak.enc) false] 0).2 ++ (lays [.lst 1 (d.Book.map GNet.enc) false] (0 + (AV.rows (.lst 1 (d.Schedule.map encI) false) + AV.rows (.lst 5 (d.Net.Agents.map GAgent.enc) false) + 1 + 1))).2
      congr 1
      simp only [lays, lay, List.append_nil, Nat.zero_add]
    rintro i hi
    simp only [go_sem, Nat.reduceEqDiff, reduceIte, Nat.reduceAdd, eq_self, List.length_map]
    refine cnd_split ?_ ?_ <;> intro hc <;> simp only [hc, go_sem, Nat.reduceEqDiff, reduceIte, Nat.reduceAdd, List.getElem?_cons_zero, List.getElem?_cons_succ, eq_self]
    · have hlt : i < d.Points.length := by have := of_decide_eq_true hc; omega
      have hsz : GCheckpoint.sz d.Points[i] ≤ sumN GCheckpoint.sz d.Points := le_sumN (f := GCheckpoint.sz) (List.getElem_mem hlt)
      simp only [List.getElem?_map, List.getElem?_eq_getElem hlt, Option.map_some, go_sem, Nat.reduceEqDiff, reduceIte, Bool.not_true, eq_self]
      have en : (lays [.lst 1 (d.Schedule.map encI) false, .lst 5 (d.Net.Agents.map GAgent.enc) false, .lst 3 (d.Origins.map GOrigin.enc) false, .lst 2 (d.Breaks.map GBreak.enc) false, .lst 1 (d.Book.map GNet.enc) false] 0).2.length + ((lays ((d.Points.take i).map GCheckpoint.enc) (AV.rows (.lst 1 (d.Schedule.map encI) false) + AV.rows (.lst 5 (d.Net.Agents.map GAgent.enc) false) + 1 + 1 + AV.rows (.lst 1 (d.Book.map GNet.enc) false) + 1)).2.length + 1) = AV.rows (.lst 1 (d.Schedule.map encI) false) + AV.rows (.lst 5 (d.Net.Agents.map GAgent.enc) false) + 1 + 1 + AV.rows (.lst 1 (d.Book.map GNet.enc) false) + 1 + AV.rowss ((d.Points.take i).map GCheckpoint.enc) := by rw [hL2, lays_len]; omega
      refine call_fresh (n795 d.Points[i] (by omega)) ?_
      simp only [go_sem, List.length_append, en, List.length_cons]
      refine bsl_one rfl (by rw [lay_cellsLen (GCheckpoint.plx _)]; rfl) ?_
      simp only [go_sem, List.length_append, lay_len, en, Nat.reduceEqDiff, reduceIte, List.length_cons, eq_self]
      have hA : (lays ((d.Points.take i).map GCheckpoint.enc) (AV.rows (.lst 1 (d.Schedule.map encI) false) + AV.rows (.lst 5 (d.Net.Agents.map GAgent.enc) false) + 1 + 1 + AV.rows (.lst 1 (d.Book.map GNet.enc) false) + 1)).1.length = i := by rw [lays_length]; simp; omega
      refine app_one (len := i) (el := (lays ((d.Points.take i).map GCheckpoint.enc) (AV.rows (.lst 1 (d.Schedule.map encI) false) + AV.rows (.lst 5 (d.Net.Agents.map GAgent.enc) false) + 1 + 1 + AV.rows (.lst 1 (d.Book.map GNet.enc) false) + 1)).1) (x := (lay d.Points[i].enc (AV.rows (.lst 1 (d.Schedule.map encI) false) + AV.rows (.lst 5 (d.Net.Agents.map GAgent.enc) false) + 1 + 1 + AV.rows (.lst 1 (d.Book.map GNet.enc) false) + 1 + AV.rowss ((d.Points.take i).map GCheckpoint.enc))).1) ?_ ?_ hA (by omega) ?_
      · rw [List.getElem?_append_right (by simp only [List.length_append, lay_len, List.length_cons]; omega)]
        simp only [List.length_append, lay_len, List.length_cons, en]
        simp
      · simp only [List.append_assoc, List.cons_append]; exact midO_at hL2
      simp only [go_sem, List.length_append, lay_len, en, Nat.reduceEqDiff, reduceIte, List.length_cons, List.length_nil, Nat.reduceAdd, eq_self]
      simp only [wrap_succ (show i < 4611686018427387904 by omega)]
      refine loopQ_nrm (i + 1) (by omega) (by omega) ?_
      have e : (d.Points.take (i + 1)).map GCheckpoint.enc = (d.Points.take i).map GCheckpoint.enc ++ [GCheckpoint.enc d.Points[i]] := by
        rw [List.take_succ_eq_append_getElem hlt, List.map_append]; rfl
      refine Can.push (w := 3) (ps := [.lst 1 (d.Schedule.map encI) false, .lst 5 (d.Net.Agents.map GAgent.enc) false, .lst 3 (d.Origins.map GOrigin.enc) false, .lst 2 (d.Breaks.map GBreak.enc) false, .lst 1 (d.Book.map GNet.enc) false]) (A := (d.Points.take i).map GCheckpoint.enc) (t := d.Points[i].enc) hp2 (pls_map GCheckpoint.plx _) (GCheckpoint.plx _) hb2 rfl ?_ ?_
        ⟨⟨_, rfl, .tree (by simp only [AV.tree, GDebugger.tr])⟩, ⟨_, rfl, .tree rfl⟩, trivial⟩ ⟨⟨_, rfl, .tree rfl⟩, ⟨_, rfl, .agg rfl (VR2s.cons (.slice (rmu_lo (by omega))) (VR2s.cons (.slice (rmu_lo (by omega))) (VR2s.cons (.tree rfl) (VR2s.cons (.tree rfl) (VR2s.cons (.slice (rmu_lo (by omega))) (VR2s.cons (.slice (rmu_lo (by omega))) (VR2s.cons (.slice (rmu_lo (by omega))) (VR2s.cons (.slice (rmu_b.trans ?_)) VR2s.nil)))))))).2⟩, trivial⟩
      · simp only [List.append_assoc, List.cons_append]
        rw [midO_set hL2]
        simp only [List.append_assoc, List.cons_append, List.nil_append]
      · rw [e]
      · congr 2; omega
    · obtain rfl : i = d.Points.length := by have := of_decide_eq_false hc; omega
      simp only [List.take_length]
      refine lst_all (k := 8) (by rfl) (by rfl) (by exact ⟨_, rfl⟩) (by decide) ?_
      simp only [go_sem, Nat.reduceEqDiff, reduceIte, eq_self]
      have hrP : AV.rowss [.lst 3 (d.Points.map GCheckpoint.enc) false] = AV.rows (.lst 3 (d.Points.map GCheckpoint.enc) false) := rfl
      have hrB : AV.rowss [.lst 1 (d.Book.map GNet.enc) false] = AV.rows (.lst 1 (d.Book.map GNet.enc) false) := rfl
      have hP : 0 < AV.rows (.lst 3 (d.Points.map GCheckpoint.enc) false) := by simp only [AV.rows]; omega
      refine FinF.swap (X := [.lst 1 (d.Schedule.map encI) false, .lst 5 (d.Net.Agents.map GAgent.enc) false, .lst 3 (d.Origins.map GOrigin.enc) false, .lst 2 (d.Breaks.map GBreak.enc) false]) (Y := [.lst 1 (d.Book.map GNet.enc) false]) (W := [.lst 3 (d.Points.map GCheckpoint.enc) false]) hp1 (by simp only [AV.pls, AV.pl, pls_map GNet.plx, Bool.and_self]) (by simp only [AV.pls, AV.pl, pls_map GCheckpoint.plx, Bool.and_self]) ?_ ?_ ?_
      · rw [show ([.lst 1 (d.Schedule.map encI) false, .lst 5 (d.Net.Agents.map GAgent.enc) false, .lst 3 (d.Origins.map GOrigin.enc) false, .lst 2 (d.Breaks.map GBreak.enc) false] : List AV) ++ ([.lst 1 (d.Book.map GNet.enc) false] ++ [.lst 3 (d.Points.map GCheckpoint.enc) false]) = [.lst 1 (d.Schedule.map encI) false, .lst 5 (d.Net.Agents.map GAgent.enc) false, .lst 3 (d.Origins.map GOrigin.enc) false, .lst 2 (d.Breaks.map GBreak.enc) false, .lst 1 (d.Book.map GNet.enc) false] ++ [.lst 3 (d.Points.map GCheckpoint.enc) false] from rfl, lays_app, hb2]
        show _ = (lays [.lst 1 (d.Schedule.map encI) false, .lst 5 (d.Net.Agents.map GAgent.enc) false, .lst 3 (d.Origins.map GOrigin.enc) false, .lst 2 (d.Breaks.map GBreak.enc) false, .lst 1 (d.Book.map GNet.enc) false] 0).2 ++ (lays [.lst 3 (d.Points.map GCheckpoint.enc) false] (0 + (AV.rows (.lst 1 (d.Schedule.map encI) false) + AV.rows (.lst 5 (d.Net.Agents.map GAgent.enc) false) + 1 + 1 + AV.rows (.lst 1 (d.Book.map GNet.enc) false)))).2
        congr 1
        simp only [lays, lay, List.append_nil, Nat.zero_add]
      · simp only [GDebugger.layE, lays, lay_len, List.cons_append, List.nil_append, List.append_nil]
      · simp only [GDebugger.layE]
        exact .agg rfl (VR2s.cons (.slice (pmu_at (by omega))) (VR2s.cons (.slice (pmu_at (by omega))) (VR2s.cons (.tree rfl) (VR2s.cons (.tree rfl) (VR2s.cons (.slice (pmu_at (by omega))) (VR2s.cons (.slice (pmu_at (by omega))) (VR2s.cons (.slice (pmu_at (by omega))) (VR2s.cons (.slice (pmu_at (by omega))) VR2s.nil)))))))).2
end Go.Ab
namespace Go.Ab
open Go
set_option maxRecDepth 10000
def inI (n lo hi : Int) : Bool := decide (lo ≤ n) && decide (n ≤ hi)
def portsOf (k f : Int) : Int :=
  if k = 9 then (if inI f 0 3 then f + 1 else 0) else if f ≠ 0 then 0 else
  if k = 1 ∨ k = 5 ∨ k = 6 ∨ k = 12 then 1 else if k = 8 ∨ k = 10 ∨ k = 11 then 2 else if k = 2 ∨ k = 3 ∨ k = 4 ∨ k = 7 then 3 else 0
def hasLevel (k : Int) : Bool := decide (k = 2) || decide (k = 3) || decide (k = 4) || decide (k = 7) || decide (k = 8) || decide (k = 9) || decide (k = 10) || decide (k = 11) || decide (k = 12)
def kindI (k : Int) : Bool := inI k 1 12
def levelOk (k l : Int) : Bool := if hasLevel k then inI l 0 8 else kindI k && decide (l = 0)
def breakOk (b : GBreak) : Bool := if b.Kind = 1 then inI b.Value 1 8 else if b.Kind = 2 then inI b.Value 0 23 else if b.Kind = 3 then inI b.Value 1 600 else false
def defOk (n : Int) : Bool := inI n 0 23
def fieldsOf (x : GAgent) : Int := if x.Kind = 9 then (x.Ports.length : Int) - 1 else 0
def contentOk (x : GAgent) : Bool :=
  if x.Kind = 6 then decide ((x.Data.length : Int) = 0) && inI x.Value (-2147483648) 2147483647
  else if x.Kind = 7 then decide ((x.Data.length : Int) = 0) && inI x.Value 1 6
  else if x.Kind = 8 then decide ((x.Data.length : Int) = 1) && inI x.Value 1 6 && x.Data.all fun d => inI d (-2147483648) 2147483647
  else if x.Kind = 9 then decide ((x.Data.length : Int) = 0) && inI x.Value 0 3
  else if x.Kind = 12 then decide ((x.Data.length : Int) = 0) && defOk x.Value
  else if x.Kind = 10 then decide (x.Value = 0) && inI x.Data.length 1 4 && x.Data.all defOk
  else if x.Kind = 11 then decide (x.Value = 0) && decide ((x.Data.length : Int) = 2) && x.Data.all defOk
  else decide (x.Value = 0) && decide ((x.Data.length : Int) = 0)
def agentOk (x : GAgent) : Bool := decide (0 < portsOf x.Kind (fieldsOf x)) && decide ((x.Ports.length : Int) = portsOf x.Kind (fieldsOf x)) && levelOk x.Kind x.Level && contentOk x
def agentsFrom : List GAgent → Nat → Bool
  | [], _ => true
  | x :: xs, i => agentOk x && (decide (x.Kind = 1) == decide (i = 0)) && agentsFrom xs (i + 1)
def agentsOk (xs : List GAgent) : Bool := inI xs.length 1 600 && agentsFrom xs 0
def portsLen (xs : List GAgent) (a : Int) : Nat := match xs[a.toNat]? with
  | some x => x.Ports.length
  | none => 0
def portOk (xs : List GAgent) (p : GPort) : Bool := inI p.Agent 0 ((xs.length : Int) - 1) && inI p.Slot 0 ((portsLen xs p.Agent : Int) - 1)
theorem drop_at {α : Type} {xs : List α} {i : Nat} (h : i < xs.length) : xs.drop i = xs[i] :: xs.drop (i + 1) := by simp
theorem c340 {n lo hi : Int} : Pure Gm 340 [.int .i64 n, .int .i64 lo, .int .i64 hi] (.bool (inI n lo hi)) := by
  refine Pure.intro [] [] g340 (by kernel_rfl) rfl (by simp [AV.trees, AV.tree, go_sem]) rfl ?_
  simp only [F340, vparams, go_sem, Nat.reduceEqDiff, reduceIte, Nat.reduceAdd, eq_self]
  repeat' (first | (refine lbox_ok rfl ?_; simp only [go_sem, Nat.reduceEqDiff, reduceIte, Bool.not_true, Bool.not_false, Bool.false_eq_true, List.length_cons, List.length_nil, Nat.reduceAdd, List.getElem?_cons_zero, List.getElem?_cons_succ, decide_true, eq_self, List.length_map]) | (first | (refine grd_split ?_ ?_ <;> intro hc <;> simp only [hc, go_sem, Nat.reduceEqDiff, reduceIte, Bool.not_true, eq_self]) | (refine cnd_split ?_ ?_ <;> intro hc <;> simp only [hc, go_sem, Nat.reduceEqDiff, reduceIte, Bool.not_true, Bool.not_false, Bool.false_eq_true, List.length_cons, List.length_nil, Nat.reduceAdd, List.getElem?_cons_zero, List.getElem?_cons_succ, decide_true, eq_self, List.length_map])) | refine fin_eq rfl ?_)
  all_goals (simp_all [inI] <;> omega)
theorem c426 {b : GBreak} : Pure Gm 426 [.ept b.enc 0] (.bool (breakOk b)) := by
  refine Pure.intro [] [] g426 (by kernel_rfl) rfl (by simp [AV.trees, AV.tree, go_sem]) rfl ?_
  simp only [F426, vparams, go_sem, Nat.reduceEqDiff, reduceIte, Nat.reduceAdd, eq_self]
  repeat' (first | (refine lbox_ok rfl ?_; simp only [go_sem, Nat.reduceEqDiff, reduceIte, Bool.not_true, Bool.not_false, Bool.false_eq_true, List.length_cons, List.length_nil, Nat.reduceAdd, List.getElem?_cons_zero, List.getElem?_cons_succ, decide_true, eq_self, List.length_map]) | (first | (refine grd_split ?_ ?_ <;> intro hc <;> simp only [hc, go_sem, Nat.reduceEqDiff, reduceIte, Bool.not_true, Bool.not_false, Bool.false_eq_true, List.length_cons, List.length_nil, Nat.reduceAdd, List.getElem?_cons_zero, List.getElem?_cons_succ, decide_true, eq_self, List.length_map]) | (refine cnd_split ?_ ?_ <;> intro hc <;> simp only [hc, go_sem, Nat.reduceEqDiff, reduceIte, Bool.not_true, Nat.reduceAdd, eq_self])) | (refine call_pure (c340) ?_; simp only [go_sem, Nat.reduceEqDiff, reduceIte, eq_self]) | refine fin_eq rfl ?_)
  all_goals (simp_all [breakOk])
theorem c1372 {k : Int} : Pure Gm 1372 [.int .i64 k] (.bool (hasLevel k)) := by
  refine Pure.intro [] [] g1372 (by kernel_rfl) rfl (by simp [AV.trees, AV.tree, go_sem]) rfl ?_
  simp only [F1372, vparams, go_sem, Nat.reduceEqDiff, reduceIte, eq_self]
  repeat' (first | (refine lbox_ok rfl ?_; simp only [go_sem, Nat.reduceEqDiff, reduceIte, Bool.not_true, Bool.not_false, Bool.false_eq_true, List.length_cons, List.length_nil, Nat.reduceAdd, List.getElem?_cons_zero, List.getElem?_cons_succ, decide_true, eq_self, List.length_map]) | (first | (refine grd_split ?_ ?_ <;> intro hc <;> simp only [hc, go_sem, Nat.reduceEqDiff, reduceIte, Bool.not_true, Bool.not_false, Bool.false_eq_true, List.length_cons, List.length_nil, Nat.reduceAdd, List.getElem?_cons_zero, List.getElem?_cons_succ, decide_true, eq_self, List.length_map]) | (refine cnd_split ?_ ?_ <;> intro hc <;> simp only [hc, go_sem, Nat.reduceEqDiff, reduceIte, eq_self])) | refine fin_eq rfl ?_)
  all_goals (simp_all [hasLevel])
theorem c1489 {k : Int} : Pure Gm 1489 [.int .i64 k] (.bool (kindI k)) := by
  refine Pure.intro [] [] g1489 (by kernel_rfl) rfl (by simp [AV.trees, AV.tree, go_sem]) rfl ?_
  simp only [F1489, vparams, go_sem, Nat.reduceEqDiff, reduceIte, Bool.not_true, eq_self]
  repeat' (first | (refine lbox_ok rfl ?_; simp only [go_sem, Nat.reduceEqDiff, reduceIte, Bool.not_true, Bool.not_false, Bool.false_eq_true, List.length_cons, List.length_nil, Nat.reduceAdd, List.getElem?_cons_zero, List.getElem?_cons_succ, decide_true, eq_self, List.length_map]) | (first | (refine grd_split ?_ ?_ <;> intro hc <;> simp only [hc, go_sem, Nat.reduceEqDiff, reduceIte, Bool.not_true, Bool.not_false, Bool.false_eq_true, List.length_cons, List.length_nil, Nat.reduceAdd, List.getElem?_cons_zero, List.getElem?_cons_succ, decide_true, eq_self, List.length_map]) | (refine cnd_split ?_ ?_ <;> intro hc <;> simp only [hc, go_sem, Nat.reduceEqDiff, reduceIte, Bool.not_true, Bool.not_false, Bool.false_eq_true, List.length_cons, List.length_nil, Nat.reduceAdd, List.getElem?_cons_zero, List.getElem?_cons_succ, decide_true, eq_self, List.length_map])) | (refine call_pure (c340) ?_; simp only [go_sem, Nat.reduceEqDiff, reduceIte, eq_self]) | refine fin_eq rfl ?_)
  all_goals (simp_all [kindI])
theorem c1385 {k l : Int} : Pure Gm 1385 [.int .i64 k, .int .i64 l] (.bool (levelOk k l)) := by
  refine Pure.intro [] [] g1385 (by kernel_rfl) rfl (by simp [AV.trees, AV.tree, go_sem]) rfl ?_
  simp only [F1385, vparams, go_sem, Nat.reduceEqDiff, reduceIte, Bool.not_true, Nat.reduceAdd, eq_self]
  repeat' (first | (refine lbox_ok rfl ?_; simp only [go_sem, Nat.reduceEqDiff, reduceIte, Bool.not_true, Bool.not_false, Bool.false_eq_true, List.length_cons, List.length_nil, Nat.reduceAdd, List.getElem?_cons_zero, List.getElem?_cons_succ, decide_true, eq_self, List.length_map]) | (first | (refine grd_split ?_ ?_ <;> intro hc <;> simp only [hc, go_sem, Nat.reduceEqDiff, reduceIte, Bool.not_true, eq_self]) | (refine cnd_split ?_ ?_ <;> intro hc <;> simp only [hc, go_sem, Nat.reduceEqDiff, reduceIte, Bool.not_true, eq_self])) | (refine call_pure (c340) ?_; simp only [go_sem, Nat.reduceEqDiff, reduceIte, eq_self]) | (refine call_pure (c1372) ?_; simp only [go_sem, Nat.reduceEqDiff, reduceIte, eq_self]) | (refine call_pure (c1489) ?_; simp only [go_sem, Nat.reduceEqDiff, reduceIte, eq_self]) | refine fin_eq rfl ?_)
  all_goals (simp_all [levelOk])
theorem c1494 {k : Int} : Pure Gm 1494 [.int .i64 k] (.bool (defOk k)) := by
  refine Pure.intro [] [] g1494 (by kernel_rfl) rfl (by simp [AV.trees, AV.tree, go_sem]) rfl ?_
  simp only [F1494, vparams, go_sem, Nat.reduceEqDiff, reduceIte, Bool.not_true, eq_self]
  repeat' (first | (refine lbox_ok rfl ?_; simp only [go_sem, Nat.reduceEqDiff, reduceIte, Bool.not_true, Bool.not_false, Bool.false_eq_true, List.length_cons, List.length_nil, Nat.reduceAdd, List.getElem?_cons_zero, List.getElem?_cons_succ, decide_true, eq_self, List.length_map]) | (first | (refine grd_split ?_ ?_ <;> intro hc <;> simp only [hc, go_sem, Nat.reduceEqDiff, reduceIte, Bool.not_true, Bool.not_false, Bool.false_eq_true, List.length_cons, List.length_nil, Nat.reduceAdd, List.getElem?_cons_zero, List.getElem?_cons_succ, decide_true, eq_self, List.length_map]) | (refine cnd_split ?_ ?_ <;> intro hc <;> simp only [hc, go_sem, Nat.reduceEqDiff, reduceIte, Bool.not_true, Bool.not_false, Bool.false_eq_true, List.length_cons, List.length_nil, Nat.reduceAdd, List.getElem?_cons_zero, List.getElem?_cons_succ, decide_true, eq_self, List.length_map])) | (refine call_pure (c340) ?_; simp only [go_sem, Nat.reduceEqDiff, reduceIte, eq_self]) | refine fin_eq rfl ?_)
  all_goals (simp_all [defOk])
theorem c1371 {k f : Int} : Pure Gm 1371 [.int .i64 k, .int .i64 f] (.int .i64 (portsOf k f)) := by
  refine Pure.intro [] [] g1371 (by kernel_rfl) rfl (by simp [AV.trees, AV.tree, go_sem]) rfl ?_
  simp only [F1371, vparams, go_sem, Nat.reduceEqDiff, reduceIte, Nat.reduceAdd, eq_self]
  repeat' (first | (refine lbox_ok rfl ?_; simp only [go_sem, Nat.reduceEqDiff, reduceIte, Bool.not_true, Bool.not_false, Bool.false_eq_true, List.length_cons, List.length_nil, Nat.reduceAdd, List.getElem?_cons_zero, List.getElem?_cons_succ, decide_true, eq_self, List.length_map]) | (first | (refine grd_split ?_ ?_ <;> intro hc <;> simp only [hc, go_sem, Nat.reduceEqDiff, reduceIte, Bool.not_true, Bool.not_false, Bool.false_eq_true, List.length_cons, List.length_nil, Nat.reduceAdd, List.getElem?_cons_zero, List.getElem?_cons_succ, decide_true, eq_self, List.length_map]) | (refine cnd_split ?_ ?_ <;> intro hc <;> simp only [hc, go_sem, Nat.reduceEqDiff, reduceIte, Bool.not_true, eq_self])) | (refine call_pure (c340) ?_; simp only [go_sem, Nat.reduceEqDiff, reduceIte, eq_self]) | refine fin_eq rfl ?_)
  all_goals ((try rw [wrap_small (by simp_all [inI]; omega) (by simp_all [inI]; omega)]); simp_all [portsOf] <;> omega)
theorem c1384 {x : GAgent} (hx : x.Ports.length ≤ 140737488355328) : Pure Gm 1384 [.ept x.enc 0] (.int .i64 (fieldsOf x)) := by
  refine Pure.intro [] [] g1384 (by kernel_rfl) rfl (by simp [AV.trees, AV.tree, go_sem]) rfl ?_
  simp only [F1384, vparams, go_sem, Nat.reduceEqDiff, reduceIte, Nat.reduceAdd, eq_self]
  repeat' (first | (refine lbox_ok rfl ?_; simp only [go_sem, Nat.reduceEqDiff, reduceIte, Bool.not_true, Bool.not_false, Bool.false_eq_true, List.length_cons, List.length_nil, Nat.reduceAdd, List.getElem?_cons_zero, List.getElem?_cons_succ, decide_true, eq_self, List.length_map]) | (first | (refine grd_split ?_ ?_ <;> intro hc <;> simp only [hc, go_sem, Nat.reduceEqDiff, reduceIte, Bool.not_true, Bool.not_false, Bool.false_eq_true, List.length_cons, List.length_nil, Nat.reduceAdd, List.getElem?_cons_zero, List.getElem?_cons_succ, decide_true, eq_self, List.length_map]) | (refine cnd_split ?_ ?_ <;> intro hc <;> simp only [hc, go_sem, Nat.reduceEqDiff, reduceIte, Nat.reduceAdd, eq_self, List.length_map])) | refine fin_eq rfl ?_)
  all_goals ((try rw [wrap_small (by omega) (by omega)]); simp_all [fieldsOf] <;> omega)
theorem c1386 {x : GAgent} (hx : x.Data.length ≤ 1048576) : Pure Gm 1386 [.ept x.enc 0] (.bool (contentOk x)) := by
  refine Pure.intro [] [] g1386 (by kernel_rfl) rfl (by simp [AV.trees, AV.tree, go_sem]) rfl ?_
  simp only [F1386, vparams, go_sem, Nat.reduceEqDiff, reduceIte, Nat.reduceAdd, eq_self]
  have one : (x.Data.length : Int) = 1 → ∃ d, x.Data = [d] := fun h => List.length_eq_one_iff.1 (by omega)
  have z0 : (x.Data.length : Int) = 1 → (x.Data.map encI)[0]? = some (.int .i64 (x.Data.headD 0)) := fun h => by
    obtain ⟨d, hd⟩ := one h
    rw [hd]; rfl
  have z1 : (x.Data.length : Int) = 1 → (x.Data.all fun d => inI d (-2147483648) 2147483647) = inI (x.Data.headD 0) (-2147483648) 2147483647 := fun h => by
    obtain ⟨d, hd⟩ := one h
    rw [hd]; simp
  repeat' (first
    | (first | (refine grd_split ?_ ?_ <;> intro hc <;> simp only [hc, go_sem, Nat.reduceEqDiff, reduceIte, Bool.not_true, Bool.not_false, Nat.reduceAdd, eq_self, List.length_map]) | (refine cnd_split ?_ ?_ <;> intro hc <;> simp only [hc, go_sem, Nat.reduceEqDiff, reduceIte, Nat.reduceAdd, eq_self, List.length_map]))
    | (refine call_pure (c340) ?_; simp only [go_sem, Nat.reduceEqDiff, reduceIte, eq_self])
    | (refine call_pure (c1494) ?_; simp only [go_sem, Nat.reduceEqDiff, reduceIte, eq_self])
    | refine fin_eq rfl ?_
    | (rw [z0 (of_decide_eq_true (by assumption))]; simp only [Option.map_some]; simp only [go_sem, Nat.reduceEqDiff, reduceIte, Bool.not_true, eq_self])
    | (refine Sem.loop (fun i : Nat => i ≤ x.Data.length ∧ contentOk x = (x.Data.drop i).all defOk) (fun i => (⟨[(0, .ept x.enc 0), (3, .int .i64 (i : Nat))], [], []⟩ : VSt)) (fun i => x.Data.length - i) 0 (by kernel_rfl) ⟨Nat.zero_le _, ?_⟩ (Can.sub (by simp [go_sem]) (by simp [go_sem])) ?_))
  all_goals try (simp_all [contentOk]; done)
  all_goals
    clear z0 z1 one
    rintro i ⟨hi, hI⟩
    simp only [go_sem, Nat.reduceEqDiff, reduceIte, Nat.reduceAdd, eq_self, List.length_map]
    refine cnd_split ?_ ?_ <;> intro hc <;> simp only [hc, go_sem, Nat.reduceEqDiff, reduceIte, Nat.reduceAdd, eq_self]
    · have hlt : i < x.Data.length := by have := of_decide_eq_true hc; omega
      simp only [List.getElem?_map, List.getElem?_eq_getElem hlt, Option.map_some, go_sem, Nat.reduceEqDiff, reduceIte, eq_self]
      simp only [encI]
      simp only [go_sem, Nat.reduceEqDiff, reduceIte, Bool.not_true, eq_self]
      refine call_pure c1494 ?_
      simp only [go_sem, Nat.reduceEqDiff, reduceIte, eq_self]
      refine cnd_split ?_ ?_ <;> intro hc <;> simp only [hc, go_sem, Nat.reduceEqDiff, reduceIte, eq_self]
      · refine fin_eq rfl ?_
        have hd : defOk x.Data[i] = false := by simpa using hc
        rw [hI, drop_at hlt, List.all_cons, hd, Bool.false_and]
      · simp only [wrap_succ (show i < 4611686018427387904 by omega)]; refine loopQ_nrm (i + 1) ⟨by omega, ?_⟩ (by omega) (Can.sub (by simp [go_sem]) (by simp [go_sem]))
        have hd : defOk x.Data[i] = true := by simpa using hc
        rw [hI, drop_at hlt, List.all_cons, hd, Bool.true_and]
    · have hge : i = x.Data.length := by have := of_decide_eq_false hc; omega
      subst hge
      refine fin_eq rfl ?_
      rw [hI]; simp
end Go.Ab
namespace Go.Ab
open Go
set_option maxRecDepth 10000
def originOk (o : GOrigin) (a : Int) : Bool := inI o.Step 0 a && inI o.Def (-1) 23 && inI o.Source (-1) 599 && (decide (0 ≤ o.Source) || decide (o.Def < 0))
theorem c1096 {x : GAgent} (hz : x.sz ≤ 1048576) : Pure Gm 1096 [.ept x.enc 0] (.bool (agentOk x)) := by
  refine Pure.intro [] [] g1096 (by kernel_rfl) rfl (by simp [AV.trees, AV.tree, go_sem]) rfl ?_
  simp only [F1096, vparams, go_sem, Nat.reduceEqDiff, reduceIte, Bool.not_false, Nat.reduceAdd, eq_self]
  repeat' (first | (refine lbox_ok rfl ?_; simp only [go_sem, Nat.reduceEqDiff, reduceIte, Bool.not_true, Bool.not_false, Bool.false_eq_true, List.length_cons, List.length_nil, Nat.reduceAdd, List.getElem?_cons_zero, List.getElem?_cons_succ, decide_true, eq_self, List.length_map]) | (first | (refine grd_split ?_ ?_ <;> intro hc <;> simp only [hc, go_sem, Nat.reduceEqDiff, reduceIte, Bool.not_true, Nat.reduceAdd, eq_self, List.length_map]) | (refine cnd_split ?_ ?_ <;> intro hc <;> simp only [hc, go_sem, Nat.reduceEqDiff, reduceIte, Bool.not_true, Bool.not_false, Bool.false_eq_true, List.length_cons, List.length_nil, Nat.reduceAdd, List.getElem?_cons_zero, List.getElem?_cons_succ, decide_true, eq_self, List.length_map])) | (refine call_pure (c1384 (by unfold GAgent.sz at hz; omega)) ?_; simp only [go_sem, Nat.reduceEqDiff, reduceIte, Bool.not_true, eq_self]) | (refine call_pure (c1371) ?_; simp only [go_sem, Nat.reduceEqDiff, reduceIte, eq_self]) | (refine call_pure (c1385) ?_; simp only [go_sem, Nat.reduceEqDiff, reduceIte, eq_self]) | (refine call_pure (c1386 (by unfold GAgent.sz at hz; omega)) ?_; simp only [go_sem, Nat.reduceEqDiff, reduceIte, eq_self]) | refine fin_eq rfl ?_)
  all_goals (simp_all [agentOk] <;> omega)
theorem c710 {xs : List GAgent} (hl : xs.length + sumN GAgent.sz xs ≤ 1048576) : Pure Gm 710 [.lst 5 (xs.map GAgent.enc) false] (.bool (agentsOk xs)) := by
  refine Pure.intro [] [] g710 (by kernel_rfl) rfl (by simp [AV.trees, AV.tree, trees_map GAgent.isSh.tree]) rfl ?_
  simp only [F710, vparams, go_sem, Nat.reduceEqDiff, reduceIte, Bool.not_true, eq_self, List.length_map]
  refine call_pure c340 ?_
  simp only [go_sem, Nat.reduceEqDiff, reduceIte, eq_self]
  refine cnd_split ?_ ?_ <;> intro hc <;> simp only [hc, go_sem, Nat.reduceEqDiff, reduceIte, eq_self]
  · refine fin_eq rfl ?_
    simp_all [agentsOk]
  refine Sem.loop (fun i : Nat => i ≤ xs.length ∧ agentsOk xs = agentsFrom (xs.drop i) i) (fun i => (⟨[(0, .lst 5 (xs.map GAgent.enc) false), (3, .int .i64 (i : Nat))], [], []⟩ : VSt)) (fun i => xs.length - i) 0 (by kernel_rfl) ⟨Nat.zero_le _, by simp_all [agentsOk]⟩ (Can.sub (by simp [go_sem]) (by simp [go_sem])) ?_
  rintro i ⟨hi, hI⟩
  simp only [go_sem, Nat.reduceEqDiff, reduceIte, eq_self, List.length_map]
  refine cnd_split ?_ ?_ <;> intro hc <;> simp only [hc, go_sem, Nat.reduceEqDiff, reduceIte, eq_self]
  · have hlt : i < xs.length := by have := of_decide_eq_true hc; omega
    simp only [List.getElem?_map, List.getElem?_eq_getElem hlt, Option.map_some, go_sem, Nat.reduceEqDiff, reduceIte, Bool.not_true, eq_self]
    have hs := le_sumN (f := GAgent.sz) (List.getElem_mem hlt)
    refine call_pure (c1096 (by omega)) ?_
    simp only [go_sem, Nat.reduceEqDiff, reduceIte, eq_self]
    refine grd_split ?_ ?_ <;> intro hc <;> simp only [hc, go_sem, Nat.reduceEqDiff, reduceIte, Bool.not_false, eq_self]
    · simp only [List.getElem?_map, List.getElem?_eq_getElem hlt, Option.map_some, go_sem, Nat.reduceEqDiff, reduceIte, Nat.reduceAdd, eq_self]
      refine cnd_split ?_ ?_ <;> intro hc <;> simp only [hc, go_sem, Nat.reduceEqDiff, reduceIte, eq_self]
      · refine fin_eq rfl ?_
        rw [hI, drop_at hlt]; simp_all [agentsFrom]
      · simp only [wrap_succ (show i < 4611686018427387904 by omega)]; refine loopQ_nrm (i + 1) ⟨by omega, ?_⟩ (by omega) (Can.sub (by simp [go_sem]) (by simp [go_sem]))
        rw [hI, drop_at hlt]; simp_all [agentsFrom]
    · refine fin_eq rfl ?_
      rw [hI, drop_at hlt]; simp_all [agentsFrom]
  · obtain rfl : i = xs.length := by have := of_decide_eq_false hc; omega
    refine fin_eq rfl ?_
    rw [hI]; simp [agentsFrom]
theorem c1109 {o : GOrigin} {a : Int} : Pure Gm 1109 [.ept o.enc 0, .int .i64 a] (.bool (originOk o a)) := by
  refine Pure.intro [] [] g1109 (by kernel_rfl) rfl (by simp [AV.trees, AV.tree, go_sem]) rfl ?_
  simp only [F1109, vparams, go_sem, Nat.reduceEqDiff, reduceIte, Bool.not_true, Nat.reduceAdd, eq_self]
  repeat' (first | (refine lbox_ok rfl ?_; simp only [go_sem, Nat.reduceEqDiff, reduceIte, Bool.not_true, Bool.not_false, Bool.false_eq_true, List.length_cons, List.length_nil, Nat.reduceAdd, List.getElem?_cons_zero, List.getElem?_cons_succ, decide_true, eq_self, List.length_map]) | (first | (refine grd_split ?_ ?_ <;> intro hc <;> simp only [hc, go_sem, Nat.reduceEqDiff, reduceIte, Bool.not_true, Bool.not_false, Nat.reduceAdd, eq_self]) | (refine cnd_split ?_ ?_ <;> intro hc <;> simp only [hc, go_sem, Nat.reduceEqDiff, reduceIte, Bool.not_true, Bool.not_false, Bool.false_eq_true, List.length_cons, List.length_nil, Nat.reduceAdd, List.getElem?_cons_zero, List.getElem?_cons_succ, decide_true, eq_self, List.length_map])) | (refine call_pure (c340) ?_; simp only [go_sem, Nat.reduceEqDiff, reduceIte, eq_self]) | refine fin_eq rfl ?_)
  all_goals (simp_all [originOk] <;> omega)
end Go.Ab
namespace Go.Ab
open Go
set_option maxRecDepth 10000
theorem inI_iff {n lo hi : Int} : inI n lo hi = true ↔ lo ≤ n ∧ n ≤ hi := by simp [inI]
def peerAt (xs : List GAgent) (q : GPort) : Option GPort := match xs[q.Agent.toNat]? with
  | some y => y.Ports[q.Slot.toNat]?
  | none => none
def wireOk (xs : List GAgent) (me q : GPort) : Bool := !(decide (q = me)) && portOk xs q && decide (peerAt xs q = some me)
def wiresFrom (xs : List GAgent) (i : Nat) : List GPort → Nat → Bool
  | [], _ => true
  | q :: qs, k => wireOk xs ⟨i, k⟩ q && wiresFrom xs i qs (k + 1)
def netFrom (xs : List GAgent) : List GAgent → Nat → Bool
  | [], _ => true
  | x :: r, i => wiresFrom xs i x.Ports 0 && netFrom xs r (i + 1)
def netOk (n : GNet) : Bool := agentsOk n.Agents && netFrom n.Agents n.Agents 0
def schedOk (xs : List Int) : Bool := decide (xs.length ≤ 200) && xs.all fun n => inI n 0 600
def bookOk (xs : List GNet) : Bool := decide (xs.length ≤ 24) && xs.all netOk
theorem c488 {xs : List GAgent} {p : GPort} (hl : xs.length + sumN GAgent.sz xs ≤ 1048576) : Pure Gm 488 [.lst 5 (xs.map GAgent.enc) false, p.enc] (.bool (portOk xs p)) := by
  refine Pure.intro [] [] g488 (by kernel_rfl) rfl (by simp [AV.trees, AV.tree, trees_map GAgent.isSh.tree, GPort.tr]) rfl ?_
  simp only [F488, vparams, go_sem, Nat.reduceEqDiff, reduceIte, Nat.reduceAdd, eq_self]
  refine lbox_ok rfl ?_; simp only [go_sem, Nat.reduceEqDiff, reduceIte, Bool.not_true, eq_self, List.length_map]
  rw [wrap_small (by omega) (by omega)]
  refine call_pure c340 ?_
  simp only [go_sem, Nat.reduceEqDiff, reduceIte, eq_self]
  refine grd_split ?_ ?_ <;> intro hc <;> simp only [hc, go_sem, Nat.reduceEqDiff, reduceIte, Bool.not_true, eq_self]
  · have h := inI_iff.1 hc
    have hlt : p.Agent.toNat < xs.length := by omega
    rw [idx_li h.1]
    simp only [List.getElem?_map, List.getElem?_eq_getElem hlt, Option.map_some, go_sem, Nat.reduceEqDiff, reduceIte, Bool.not_true, Nat.reduceAdd, eq_self, List.length_map]
    have hs : xs[p.Agent.toNat].Data.length + xs[p.Agent.toNat].Ports.length ≤ sumN GAgent.sz xs := le_sumN (f := GAgent.sz) (List.getElem_mem hlt)
    rw [wrap_small (by omega) (by omega)]
    refine call_pure c340 ?_
    simp only [go_sem, Nat.reduceEqDiff, reduceIte, eq_self]
    refine fin_eq rfl ?_
    simp [portOk, hc, portsLen, List.getElem?_eq_getElem hlt]
  · refine fin_eq rfl ?_
    simp_all [portOk]
theorem c412 {xs : List Int} (hl : xs.length ≤ 1048576) : Pure Gm 412 [.lst 1 (xs.map encI) false] (.bool (schedOk xs)) := by
  refine Pure.intro [] [] g412 (by kernel_rfl) rfl (by simp [AV.trees, AV.tree, trees_map shI.tree]) rfl ?_
  simp only [F412, vparams, go_sem, Nat.reduceEqDiff, reduceIte, eq_self, List.length_map]
  refine cnd_split ?_ ?_ <;> intro hc <;> simp only [hc, go_sem, Nat.reduceEqDiff, reduceIte, eq_self]
  · refine fin_eq rfl ?_
    have := of_decide_eq_true hc
    have h2 : ¬ xs.length ≤ 200 := by omega
    simp [schedOk, h2]
  have h0 : xs.length ≤ 200 := by have := of_decide_eq_false hc; omega
  refine Sem.loop (fun i : Nat => i ≤ xs.length ∧ schedOk xs = (xs.drop i).all fun n => inI n 0 600) (fun i => (⟨[(0, .lst 1 (xs.map encI) false), (3, .int .i64 (i : Nat))], [], []⟩ : VSt)) (fun i => xs.length - i) 0 (by kernel_rfl) ⟨Nat.zero_le _, by simp [schedOk, h0]⟩ (Can.sub (by simp [go_sem]) (by simp [go_sem])) ?_
  rintro i ⟨hi, hI⟩
  simp only [go_sem, Nat.reduceEqDiff, reduceIte, eq_self, List.length_map]
  refine cnd_split ?_ ?_ <;> intro hc <;> simp only [hc, go_sem, Nat.reduceEqDiff, reduceIte, eq_self]
  · have hlt : i < xs.length := by have := of_decide_eq_true hc; omega
    simp only [List.getElem?_map, List.getElem?_eq_getElem hlt, Option.map_some, go_sem, Nat.reduceEqDiff, reduceIte, eq_self]
    simp only [encI]
    simp only [go_sem, Nat.reduceEqDiff, reduceIte, Bool.not_true, eq_self]
    refine call_pure c340 ?_
    simp only [go_sem, Nat.reduceEqDiff, reduceIte, eq_self]
    refine cnd_split ?_ ?_ <;> intro hc <;> simp only [hc, go_sem, Nat.reduceEqDiff, reduceIte, eq_self]
    · refine fin_eq rfl ?_
      rw [hI, drop_at hlt, List.all_cons]; simp_all
    · simp only [wrap_succ (show i < 4611686018427387904 by omega)]; refine loopQ_nrm (i + 1) ⟨by omega, ?_⟩ (by omega) (Can.sub (by simp [go_sem]) (by simp [go_sem]))
      rw [hI, drop_at hlt, List.all_cons]; simp_all
  · obtain rfl : i = xs.length := by have := of_decide_eq_false hc; omega
    refine fin_eq rfl ?_
    rw [hI]; simp
theorem c318 {n : GNet} (hz : n.sz ≤ 1048576) : Pure Gm 318 [.ept n.enc 0] (.bool (netOk n)) := by
  refine Pure.intro [] [] g318 (by kernel_rfl) rfl (by simp [AV.trees, AV.tree, go_sem]) rfl ?_
  simp only [F318, vparams, go_sem, Nat.reduceEqDiff, reduceIte, Bool.not_true, Nat.reduceAdd, eq_self]
  have hz' : n.Agents.length + sumN GAgent.sz n.Agents ≤ 1048576 := hz
  refine call_pure (c710 hz') ?_
  simp only [go_sem, Nat.reduceEqDiff, reduceIte, eq_self]
  refine cnd_split ?_ ?_ <;> intro hc <;> simp only [hc, go_sem, Nat.reduceEqDiff, reduceIte, eq_self]
  · refine fin_eq rfl ?_
    simp_all [netOk]
  refine Sem.loop (fun i : Nat => i ≤ n.Agents.length ∧ netOk n = netFrom n.Agents (n.Agents.drop i) i) (fun i => (⟨[(0, .ept n.enc 0), (3, .int .i64 (i : Nat))], [], []⟩ : VSt)) (fun i => n.Agents.length - i) 0 (by kernel_rfl) ⟨Nat.zero_le _, by simp_all [netOk]⟩ (Can.sub (by simp [go_sem]) (by simp [go_sem])) ?_
  rintro i ⟨hi, hI⟩
  simp only [go_sem, Nat.reduceEqDiff, reduceIte, Nat.reduceAdd, eq_self, List.length_map]
  refine cnd_split ?_ ?_ <;> intro hc <;> simp only [hc, go_sem, Nat.reduceEqDiff, reduceIte, Nat.reduceAdd, eq_self]
  · have hlt : i < n.Agents.length := by have := of_decide_eq_true hc; omega
    simp only [List.getElem?_map, List.getElem?_eq_getElem hlt, Option.map_some, go_sem, Nat.reduceEqDiff, reduceIte, eq_self]
    have hs : n.Agents[i].Data.length + n.Agents[i].Ports.length ≤ sumN GAgent.sz n.Agents := le_sumN (f := GAgent.sz) (List.getElem_mem hlt)
    refine Sem.loop (fun k : Nat => k ≤ n.Agents[i].Ports.length ∧ netOk n = (wiresFrom n.Agents i (n.Agents[i].Ports.drop k) k && netFrom n.Agents (n.Agents.drop (i + 1)) (i + 1))) (fun k => (⟨[(0, .ept n.enc 0), (3, .int .i64 (i : Nat)), (4, .ept n.Agents[i].enc 0), (5, .int .i64 (k : Nat))], [], []⟩ : VSt)) (fun k => n.Agents[i].Ports.length - k) 0 (by kernel_rfl) ⟨Nat.zero_le _, by rw [hI, drop_at hlt]; rfl⟩ (Can.sub (by simp [go_sem]) (by simp [go_sem])) ?_
    rintro k ⟨hk, hK⟩
    simp only [go_sem, Nat.reduceEqDiff, reduceIte, Nat.reduceAdd, eq_self, List.length_map]
    refine cnd_split ?_ ?_ <;> intro hc <;> simp only [hc, go_sem, Nat.reduceEqDiff, reduceIte, List.length_cons, List.length_nil, Nat.reduceAdd, eq_self]
    · have hkl : k < n.Agents[i].Ports.length := by have := of_decide_eq_true hc; omega
      rw [show AV.agg [AV.int IntKind.i64 (i : Nat), AV.int IntKind.i64 (k : Nat)] = GPort.enc ⟨i, k⟩ from rfl]
      refine lst_all rfl rfl ⟨_, rfl⟩ (by decide) ?_
      simp only [List.getElem?_map, List.getElem?_eq_getElem hkl, Option.map_some, go_sem, Nat.reduceEqDiff, reduceIte, Nat.reduceAdd, eq_self]
      refine lst_all rfl rfl ⟨_, rfl⟩ (by decide) ?_
      simp only [go_sem, Nat.reduceEqDiff, reduceIte, eq_self]
      have stop : wireOk n.Agents ⟨i, k⟩ n.Agents[i].Ports[k] = false → netOk n = false := fun h => by rw [hK, drop_at hkl]; simp [wiresFrom, h]
      have go : wireOk n.Agents ⟨i, k⟩ n.Agents[i].Ports[k] = true → netOk n = (wiresFrom n.Agents i (n.Agents[i].Ports.drop (k + 1)) (k + 1) && netFrom n.Agents (n.Agents.drop (i + 1)) (i + 1)) := fun h => by rw [hK, drop_at hkl]; simp [wiresFrom, h]
      refine grd_split ?_ ?_ <;> intro hc <;> simp only [hc, go_sem, Nat.reduceEqDiff, reduceIte, Bool.not_true, Bool.not_false, Nat.reduceAdd, eq_self]
      · have hne : ¬ n.Agents[i].Ports[k] = ⟨i, k⟩ := of_decide_eq_false hc
        refine call_pure (c488 hz') ?_
        simp only [go_sem, Nat.reduceEqDiff, reduceIte, eq_self]
        refine grd_split ?_ ?_ <;> intro hc <;> simp only [hc, go_sem, Nat.reduceEqDiff, reduceIte, Bool.not_false, Nat.reduceAdd, eq_self]
        · have hp : portOk n.Agents n.Agents[i].Ports[k] = true := by simpa using hc
          have hp2 := hp
          simp only [portOk, Bool.and_eq_true, inI_iff] at hp2
          have hlt2 : n.Agents[i].Ports[k].Agent.toNat < n.Agents.length := by omega
          have hpl : portsLen n.Agents n.Agents[i].Ports[k].Agent = n.Agents[n.Agents[i].Ports[k].Agent.toNat].Ports.length := by simp [portsLen, List.getElem?_eq_getElem hlt2]
          rw [hpl] at hp2
          have hlt3 : n.Agents[i].Ports[k].Slot.toNat < n.Agents[n.Agents[i].Ports[k].Agent.toNat].Ports.length := by omega
          have hpe : peerAt n.Agents n.Agents[i].Ports[k] = some n.Agents[n.Agents[i].Ports[k].Agent.toNat].Ports[n.Agents[i].Ports[k].Slot.toNat] := by simp [peerAt, List.getElem?_eq_getElem hlt2, List.getElem?_eq_getElem hlt3]
          rw [idx_li (by omega)]
          simp only [List.getElem?_map, List.getElem?_eq_getElem hlt2, Option.map_some, go_sem, Nat.reduceEqDiff, reduceIte, Nat.reduceAdd, eq_self]
          rw [idx_li (by omega)]
          simp only [List.getElem?_map, List.getElem?_eq_getElem hlt3, Option.map_some, go_sem, Nat.reduceEqDiff, reduceIte, eq_self]
          refine cnd_split ?_ ?_ <;> intro hc <;> simp only [hc, go_sem, Nat.reduceEqDiff, reduceIte, eq_self]
          · refine fin_eq rfl ?_
            rw [stop (by simp [wireOk, hpe]; intro _ _; simpa using hc)]
          · simp only [wrap_succ (show k < 4611686018427387904 by omega)]; refine loopQ_nrm (k + 1) ⟨by omega, ?_⟩ (by omega) (Can.sub (by simp [go_sem]) (by simp [go_sem]))
            exact go (by simp [wireOk, hpe, hp, hne]; simpa using hc)
        · refine fin_eq rfl ?_
          have hp : portOk n.Agents n.Agents[i].Ports[k] = false := by simpa using hc
          rw [stop (by simp [wireOk, hp])]
      · refine fin_eq rfl ?_
        have he : n.Agents[i].Ports[k] = ⟨i, k⟩ := of_decide_eq_true hc
        rw [stop (by simp [wireOk, he])]
    · obtain rfl : k = n.Agents[i].Ports.length := by have := of_decide_eq_false hc; omega
      simp only [wrap_succ (show i < 4611686018427387904 by omega)]; refine loopQ_nrm (i + 1) ⟨by omega, ?_⟩ (by omega) (Can.sub (by simp [go_sem]) (by simp [go_sem]))
      rw [hK]; simp [wiresFrom]
  · obtain rfl : i = n.Agents.length := by have := of_decide_eq_false hc; omega
    refine fin_eq rfl ?_
    rw [hI]; simp [netFrom]
theorem c598 {xs : List GNet} (hl : xs.length + sumN GNet.sz xs ≤ 1048576) : Pure Gm 598 [.lst 1 (xs.map GNet.enc) false] (.bool (bookOk xs)) := by
  refine Pure.intro [] [] g598 (by kernel_rfl) rfl (by simp [AV.trees, AV.tree, trees_map GNet.isSh.tree]) rfl ?_
  simp only [F598, vparams, go_sem, Nat.reduceEqDiff, reduceIte, eq_self, List.length_map]
  refine cnd_split ?_ ?_ <;> intro hc <;> simp only [hc, go_sem, Nat.reduceEqDiff, reduceIte, eq_self]
  · refine fin_eq rfl ?_
    have := of_decide_eq_true hc
    have h2 : ¬ xs.length ≤ 24 := by omega
    simp [bookOk, h2]
  have h0 : xs.length ≤ 24 := by have := of_decide_eq_false hc; omega
  refine Sem.loop (fun i : Nat => i ≤ xs.length ∧ bookOk xs = (xs.drop i).all netOk) (fun i => (⟨[(0, .lst 1 (xs.map GNet.enc) false), (3, .int .i64 (i : Nat))], [], []⟩ : VSt)) (fun i => xs.length - i) 0 (by kernel_rfl) ⟨Nat.zero_le _, by simp [bookOk, h0]⟩ (Can.sub (by simp [go_sem]) (by simp [go_sem])) ?_
  rintro i ⟨hi, hI⟩
  simp only [go_sem, Nat.reduceEqDiff, reduceIte, eq_self, List.length_map]
  refine cnd_split ?_ ?_ <;> intro hc <;> simp only [hc, go_sem, Nat.reduceEqDiff, reduceIte, eq_self]
  · have hlt : i < xs.length := by have := of_decide_eq_true hc; omega
    simp only [List.getElem?_map, List.getElem?_eq_getElem hlt, Option.map_some, go_sem, Nat.reduceEqDiff, reduceIte, Bool.not_true, eq_self]
    have hs := le_sumN (f := GNet.sz) (List.getElem_mem hlt)
    refine call_pure (c318 (by omega)) ?_
    simp only [go_sem, Nat.reduceEqDiff, reduceIte, eq_self]
    refine cnd_split ?_ ?_ <;> intro hc <;> simp only [hc, go_sem, Nat.reduceEqDiff, reduceIte, eq_self]
    · refine fin_eq rfl ?_
      rw [hI, drop_at hlt, List.all_cons]; simp_all
    · simp only [wrap_succ (show i < 4611686018427387904 by omega)]; refine loopQ_nrm (i + 1) ⟨by omega, ?_⟩ (by omega) (Can.sub (by simp [go_sem]) (by simp [go_sem]))
      rw [hI, drop_at hlt, List.all_cons]; simp_all
  · obtain rfl : i = xs.length := by have := of_decide_eq_false hc; omega
    refine fin_eq rfl ?_
    rw [hI]; simp
end Go.Ab
namespace Go.Ab
open Go
set_option maxRecDepth 10000
def origsOk (n : GNet) (os : List GOrigin) (a : Int) : Bool := netOk n && decide ((os.length : Int) = n.Agents.length) && os.all fun o => originOk o a
def pointsFrom (every : Int) : List GCheckpoint → Nat → Bool
  | [], _ => true
  | p :: ps, i => decide (p.At = (i : Int) * every) && origsOk p.Net p.Origins p.At && pointsFrom every ps (i + 1)
def dbgOk (d : GDebugger) : Bool := bookOk d.Book && schedOk d.Schedule && inI d.Every 1 50 && inI d.At 0 4000 && origsOk d.Net d.Origins d.At && !(decide ((8 : Int) < d.Breaks.length)) && d.Breaks.all breakOk &&
  inI d.Points.length (d.At.tdiv d.Every + 1) ((4000 : Int).tdiv d.Every + 1) && pointsFrom d.Every d.Points 0
theorem tdiv_bd {a b : Int} (ha : 0 ≤ a) (hb : 0 < b) : 0 ≤ a.tdiv b ∧ a.tdiv b ≤ a := by
  rw [Int.tdiv_eq_ediv_of_nonneg ha]
  exact ⟨Int.ediv_nonneg ha (by omega), Int.ediv_le_self b ha⟩
theorem c741 {n : GNet} {os : List GOrigin} {a : Int} (hz : n.sz ≤ 1048576) (hl : os.length ≤ 1048576) : Pure Gm 741 [.ept n.enc 0, .lst 3 (os.map GOrigin.enc) false, .int .i64 a] (.bool (origsOk n os a)) := by
  refine Pure.intro [] [] g741 (by kernel_rfl) rfl (by simp [AV.trees, AV.tree, trees_map GOrigin.isSh.tree, GNet.tr]) rfl ?_
  simp only [F741, vparams, go_sem, Nat.reduceEqDiff, reduceIte, Bool.not_true, Nat.reduceAdd, eq_self]
  refine call_pure (c318 hz) ?_
  simp only [go_sem, Nat.reduceEqDiff, reduceIte, eq_self]
  refine grd_split ?_ ?_ <;> intro hc <;> simp only [hc, go_sem, Nat.reduceEqDiff, reduceIte, Bool.not_false, Nat.reduceAdd, eq_self, List.length_map]
  · refine cnd_split ?_ ?_ <;> intro hc <;> simp only [hc, go_sem, Nat.reduceEqDiff, reduceIte, eq_self]
    · refine fin_eq rfl ?_
      have h2 : ¬ ((os.length : Int) = n.Agents.length) := by simpa using hc
      simp [origsOk]; omega
    have h1 : netOk n = true := by simp_all
    have h2 : (os.length : Int) = n.Agents.length := by simpa using hc
    refine Sem.loop (fun i : Nat => i ≤ os.length ∧ origsOk n os a = (os.drop i).all fun o => originOk o a) (fun i => (⟨[(1, .lst 3 (os.map GOrigin.enc) false), (2, .int .i64 a), (7, .int .i64 (i : Nat))], [], []⟩ : VSt)) (fun i => os.length - i) 0 (by kernel_rfl) ⟨Nat.zero_le _, by simp [origsOk, h1, h2]⟩ (Can.sub (by simp [go_sem]) (by simp [go_sem])) ?_
    rintro i ⟨hi, hI⟩
    simp only [go_sem, Nat.reduceEqDiff, reduceIte, eq_self, List.length_map]
    refine cnd_split ?_ ?_ <;> intro hc <;> simp only [hc, go_sem, Nat.reduceEqDiff, reduceIte, eq_self]
    · have hlt : i < os.length := by have := of_decide_eq_true hc; omega
      simp only [List.getElem?_map, List.getElem?_eq_getElem hlt, Option.map_some, go_sem, Nat.reduceEqDiff, reduceIte, Bool.not_true, eq_self]
      refine call_pure c1109 ?_
      simp only [go_sem, Nat.reduceEqDiff, reduceIte, eq_self]
      refine cnd_split ?_ ?_ <;> intro hc <;> simp only [hc, go_sem, Nat.reduceEqDiff, reduceIte, eq_self]
      · refine fin_eq rfl ?_
        rw [hI, drop_at hlt, List.all_cons]; simp_all
      · simp only [wrap_succ (show i < 4611686018427387904 by omega)]; refine loopQ_nrm (i + 1) ⟨by omega, ?_⟩ (by omega) (Can.sub (by simp [go_sem]) (by simp [go_sem]))
        rw [hI, drop_at hlt, List.all_cons]; simp_all
    · obtain rfl : i = os.length := by have := of_decide_eq_false hc; omega
      refine fin_eq rfl ?_
      rw [hI]; simp
  · refine fin_eq rfl ?_
    simp_all [origsOk]
theorem c367 {d : GDebugger} (hz : d.sz ≤ 1048576) : Pure Gm 367 [.ept d.enc 0] (.bool (dbgOk d)) := by
  refine Pure.intro [] [] g367 (by kernel_rfl) rfl (by simp [AV.trees, AV.tree, go_sem]) rfl ?_
  simp only [F367, vparams, go_sem, Nat.reduceEqDiff, reduceIte, Bool.not_true, Nat.reduceAdd, eq_self]
  unfold GDebugger.sz at hz
  have hzn : d.Net.sz ≤ 1048576 := by omega
  have conv : Cvs (only [] []) [.ept d.enc 4, .lst 3 (d.Origins.map GOrigin.enc) false, .int .i64 d.At] [.ept d.Net.enc 0, .lst 3 (d.Origins.map GOrigin.enc) false, .int .i64 d.At] :=
    Cvs.cons (.sub GDebugger.tr (GDebugger.q4_1) (by rw [GNet.ln]; decide)) (Cvs.cons (.refl (by simp [AV.tree, trees_map GOrigin.isSh.tree])) (Cvs.cons (.refl rfl) Cvs.nil))
  repeat' (first
    | (first | (refine grd_split ?_ ?_ <;> intro hc <;> simp only [hc, go_sem, Nat.reduceEqDiff, reduceIte, Bool.not_true, Bool.not_false, Nat.reduceAdd, eq_self, List.length_map]) | (refine cnd_split ?_ ?_ <;> intro hc <;> simp only [hc, go_sem, Nat.reduceEqDiff, reduceIte, eq_self]))
    | (refine call_pure (c598 (by omega)) ?_; simp only [go_sem, Nat.reduceEqDiff, reduceIte, eq_self])
    | (refine call_pure (c412 (by omega)) ?_; simp only [go_sem, Nat.reduceEqDiff, reduceIte, eq_self])
    | (refine call_pure c340 ?_; simp only [go_sem, Nat.reduceEqDiff, reduceIte, eq_self])
    | (refine call_conv conv (c741 hzn (by omega)) ?_; simp only [go_sem, Nat.reduceEqDiff, reduceIte, eq_self])
    | refine fin_eq rfl ?_)
  all_goals try (simp_all [dbgOk]; done)
  have f1 : bookOk d.Book = true := by simp_all
  have f2 : schedOk d.Schedule = true := by simp_all
  have f3 : inI d.Every 1 50 = true := by simp_all
  have f4 : inI d.At 0 4000 = true := by simp_all
  have f5 : origsOk d.Net d.Origins d.At = true := by simp_all
  have f6 : decide ((8 : Int) < d.Breaks.length) = false := by simp_all
  have key : dbgOk d = (d.Breaks.all breakOk && inI d.Points.length (d.At.tdiv d.Every + 1) ((4000 : Int).tdiv d.Every + 1) && pointsFrom d.Every d.Points 0) := by simp [dbgOk, f1, f2, f3, f4, f5, f6]
  have e1 := inI_iff.1 f3
  have e2 := inI_iff.1 f4
  have b1 := tdiv_bd e2.1 (show 0 < d.Every by omega)
  have b2 := tdiv_bd (show (0 : Int) ≤ 4000 by omega) (show 0 < d.Every by omega)
  clear f1 f2 f3 f4 f5 f6 conv
  rename_i t1 t2 t3 t4 t5
  clear t1 t2 t3 t4 t5 hc
  obtain ⟨X, hX⟩ : ∃ X, X = (inI d.Points.length (d.At.tdiv d.Every + 1) ((4000 : Int).tdiv d.Every + 1) && pointsFrom d.Every d.Points 0) := ⟨_, rfl⟩
  rw [Bool.and_assoc, ← hX] at key
  refine Sem.loop (fun i : Nat => i ≤ d.Breaks.length ∧ dbgOk d = ((d.Breaks.drop i).all breakOk && X)) (fun i => (⟨[(0, .ept d.enc 0), (3, .int .i64 (i : Nat))], [], []⟩ : VSt)) (fun i => d.Breaks.length - i) 0 (by kernel_rfl) ⟨Nat.zero_le _, by rw [key]; simp⟩ (Can.sub (by simp [go_sem]) (by simp [go_sem])) ?_
  rintro i ⟨hi, hI⟩
  simp only [go_sem, Nat.reduceEqDiff, reduceIte, Nat.reduceAdd, eq_self, List.length_map]
  refine cnd_split ?_ ?_ <;> intro hc <;> simp only [hc, go_sem, Nat.reduceEqDiff, reduceIte, Nat.reduceAdd, eq_self, List.length_map]
  · have hlt : i < d.Breaks.length := by have := of_decide_eq_true hc; omega
    simp only [List.getElem?_map, List.getElem?_eq_getElem hlt, Option.map_some, go_sem, Nat.reduceEqDiff, reduceIte, Bool.not_true, eq_self]
    refine call_pure c426 ?_
    simp only [go_sem, Nat.reduceEqDiff, reduceIte, eq_self]
    refine cnd_split ?_ ?_ <;> intro hc <;> simp only [hc, go_sem, Nat.reduceEqDiff, reduceIte, eq_self]
    · refine fin_eq rfl ?_
      rw [hI, drop_at hlt, List.all_cons]; simp_all
    · simp only [wrap_succ (show i < 4611686018427387904 by omega)]; refine loopQ_nrm (i + 1) ⟨by omega, ?_⟩ (by omega) (Can.sub (by simp [go_sem]) (by simp [go_sem]))
      rw [hI, drop_at hlt, List.all_cons]; simp_all
  have hX2 : dbgOk d = X := by
    obtain rfl : i = d.Breaks.length := by have := of_decide_eq_false hc; omega
    rw [hI]; simp
  clear hI key hi hc
  rw [if_neg (show ¬ d.Every = 0 by omega)]
  simp only [go_sem, Nat.reduceEqDiff, reduceIte, Nat.reduceAdd, eq_self]
  rw [if_neg (show ¬ d.Every = 0 by omega)]
  simp only [go_sem, Nat.reduceEqDiff, reduceIte, Bool.not_true, eq_self]
  rw [wrap_small (n := d.At.tdiv d.Every) (by omega) (by omega), wrap_small (n := (4000 : Int).tdiv d.Every) (by omega) (by omega), wrap_small (n := d.At.tdiv d.Every + 1) (by omega) (by omega), wrap_small (n := (4000 : Int).tdiv d.Every + 1) (by omega) (by omega)]
  refine call_pure c340 ?_
  simp only [go_sem, Nat.reduceEqDiff, reduceIte, eq_self]
  refine cnd_split ?_ ?_ <;> intro hc <;> simp only [hc, go_sem, Nat.reduceEqDiff, reduceIte, eq_self]
  · refine fin_eq rfl ?_
    rw [hX2, hX]; simp_all
  have hq : inI d.Points.length (d.At.tdiv d.Every + 1) ((4000 : Int).tdiv d.Every + 1) = true := by simpa using hc
  rw [hq, Bool.true_and] at hX
  refine Sem.loop (fun i : Nat => i ≤ d.Points.length ∧ dbgOk d = pointsFrom d.Every (d.Points.drop i) i) (fun i => (⟨[(0, .ept d.enc 0), (4, .int .i64 (i : Nat))], [], []⟩ : VSt)) (fun i => d.Points.length - i) 0 (by kernel_rfl) ⟨Nat.zero_le _, by rw [hX2, hX]; simp⟩ (Can.sub (by simp [go_sem]) (by simp [go_sem])) ?_
  rintro i ⟨hi, hI⟩
  simp only [go_sem, Nat.reduceEqDiff, reduceIte, Nat.reduceAdd, eq_self, List.length_map]
  refine cnd_split ?_ ?_ <;> intro hc <;> simp only [hc, go_sem, Nat.reduceEqDiff, reduceIte, Nat.reduceAdd, eq_self]
  · have hlt : i < d.Points.length := by have := of_decide_eq_true hc; omega
    simp only [List.getElem?_map, List.getElem?_eq_getElem hlt, Option.map_some, go_sem, Nat.reduceEqDiff, reduceIte, Nat.reduceAdd, eq_self]
    have hs : (d.Points[i].Net.sz + d.Points[i].Origins.length) ≤ sumN GCheckpoint.sz d.Points := le_sumN (f := GCheckpoint.sz) (List.getElem_mem hlt)
    have m1 : (0 : Int) ≤ (i : Int) * d.Every := Int.mul_nonneg (by omega) (by omega)
    have m2 : (i : Int) * d.Every ≤ 1048576 * 50 := Int.mul_le_mul (by omega) (by omega) (by omega) (by omega)
    rw [wrap_small (n := (i : Int) * d.Every) (by omega) (by omega)]
    have conv : Cvs (only [] []) [.ept d.Points[i].enc 1, .lst 3 (d.Points[i].Origins.map GOrigin.enc) false, .int .i64 d.Points[i].At] [.ept d.Points[i].Net.enc 0, .lst 3 (d.Points[i].Origins.map GOrigin.enc) false, .int .i64 d.Points[i].At] :=
      Cvs.cons (.sub GCheckpoint.tr (GCheckpoint.q1_1) (by rw [GNet.ln]; decide)) (Cvs.cons (.refl (by simp [AV.tree, trees_map GOrigin.isSh.tree])) (Cvs.cons (.refl rfl) Cvs.nil))
    refine grd_split ?_ ?_ <;> intro hc <;> simp only [hc, go_sem, Nat.reduceEqDiff, reduceIte, Bool.not_true, Bool.not_false, Nat.reduceAdd, eq_self]
    · refine call_conv conv (c741 (by omega) (by omega)) ?_
      simp only [go_sem, Nat.reduceEqDiff, reduceIte, eq_self]
      refine cnd_split ?_ ?_ <;> intro hc <;> simp only [hc, go_sem, Nat.reduceEqDiff, reduceIte, eq_self]
      · refine fin_eq rfl ?_
        rw [hI, drop_at hlt]; simp_all [pointsFrom]
      · simp only [wrap_succ (show i < 4611686018427387904 by omega)]; refine loopQ_nrm (i + 1) ⟨by omega, ?_⟩ (by omega) (Can.sub (by simp [go_sem]) (by simp [go_sem]))
        rw [hI, drop_at hlt]; simp_all [pointsFrom]
    · refine fin_eq rfl ?_
      rw [hI, drop_at hlt]; simp_all [pointsFrom]
  · obtain rfl : i = d.Points.length := by have := of_decide_eq_false hc; omega
    refine fin_eq rfl ?_
    rw [hI]; simp [pointsFrom]
end Go.Ab
namespace Go.Ab
open Go
set_option maxRecDepth 10000
def pairOk (ka la kb lb : Int) : Bool := levelOk ka la && levelOk kb lb && !decide (ka = 1) && !decide (kb = 1)
def dupl (l k m : Int) : Bool := inI l 0 8 && levelOk k m && (decide (k = 6) || decide (k = 12) || hasLevel k && decide (l < m))
def isCons (k : Int) : Bool := decide (k = 3) || decide (k = 7) || decide (k = 8) || decide (k = 10) || decide (k = 11)
def ruleI (ka la kb lb : Int) : Int :=
  if ka = 5 then 4 else if ka = 4 then (if kb = 4 ∧ la = lb then 2 else if dupl la kb lb then 3 else 0)
  else if ka = 2 then (if kb = 3 ∧ la = lb then 1 else 0)
  else if ka = 6 then (if kb = 7 ∨ kb = 8 then 5 else if kb = 11 then 6 else 0)
  else if ka = 9 then (if kb = 10 then 6 else 0)
  else if ka = 12 then (if isCons kb then 7 else 0) else 0
def classI (ka la kb lb : Int) : Int := if pairOk ka la kb lb then (if ruleI ka la kb lb ≠ 0 then ruleI ka la kb lb else if ruleI kb lb ka la ≠ 0 then ruleI kb lb ka la else 8) else 0
def classOf (x y : GAgent) : Int :=
  if x.Kind = 9 ∧ y.Kind = 10 ∧ (y.Data.length : Int) ≤ x.Value then 8 else if x.Kind = 10 ∧ y.Kind = 9 ∧ (x.Data.length : Int) ≤ y.Value then 8
  else classI x.Kind x.Level y.Kind y.Level
end Go.Ab
namespace Go.Ab
open Go
set_option maxRecDepth 10000
def fil (e : Env) (w : Nat) (el : List AV) (i : Nat) (v : Option AV) (r : List (Nat × Ao)) : Option (List AV) := match v with
  | some v => if v.cells.length = w ∧ i < el.length then fillAV e w (el.set i v) r else none
  | none => none
section
variable {e : Env} {w i : Nat} {el : List AV} {v : AV} {x : Ao} {r : List (Nat × Ao)}
@[go_sem] theorem fil_nil : fillAV e w el [] = some el := nr (by unfold fillAV; rfl)
@[go_sem] theorem fil_cons : fillAV e w el ((i, x) :: r) = fil e w el i (ev e x) r := nr (by unfold fillAV; rfl)
@[go_sem] theorem fil_one {el0 : AV} (h : v.cells.length = w) : fil e w [el0] 0 (some v) r = fillAV e w [v] r := by
  show (if v.cells.length = w ∧ 0 < 1 then _ else _) = _
  rw [if_pos ⟨h, by omega⟩]; rfl
@[go_sem] theorem rep0 {v : AV} : List.replicate 0 v = [] := nr rfl
@[go_sem] theorem rep1 {v : AV} : List.replicate 1 v = [v] := nr rfl
end
structure GPair where
  A : Int
  B : Int
deriving DecidableEq
def GPair.enc (x : GPair) : AV := .agg [.int .i64 x.A, .int .i64 x.B]
theorem GPair.isSh : Sh GPair.enc 2 (some 2) := ⟨fun x => by simp [GPair.enc, AV.tree, AV.trees], fun _ => rfl, fun _ => rfl, by decide, fun x => by simp [GPair.enc]⟩
section
variable {x : GPair}
@[go_sem] theorem GPair.tr : x.enc.tree = true := GPair.isSh.tree x
@[go_sem] theorem GPair.ln : x.enc.cells.length = 2 := nr rfl
@[go_sem] theorem GPair.all : x.enc.part 0 (some 2) = some x.enc := nr rfl
@[go_sem] theorem GPair.cs : x.enc.cells = [.int .i64 x.A, .int .i64 x.B] := nr rfl
@[go_sem] theorem GPair.p0 : x.enc.part 0 none = some (.int .i64 x.A) := nr rfl
@[go_sem] theorem GPair.p1 : x.enc.part 1 none = some (.int .i64 x.B) := nr rfl
@[go_sem] theorem GPair.eqf {y : GPair} : seq2 false [1, 1] (some x.enc) (some y.enc) = some (.bool (decide (x = y))) := by
  obtain ⟨a0, a1⟩ := x; obtain ⟨b0, b1⟩ := y
  simp only [seq2, GPair.enc, List.map_cons, List.map_nil, dig, and_self, if_true, cellsEq, sclEq, GPair.mk.injEq]
  repeat' (split <;> simp_all)
end
end Go.Ab
namespace Go.Ab
open Go
set_option maxRecDepth 10000
theorem wires_at {xs : List GAgent} {i : Nat} : ∀ {qs : List GPort} {j : Nat}, wiresFrom xs i qs j = true → ∀ (m : Nat) (hm : m < qs.length), wireOk xs ⟨i, (j + m : Nat)⟩ qs[m] = true
  | [], _, _, m, hm => by simp at hm
  | q :: qs, j, h, m, hm => by
    simp only [wiresFrom, Bool.and_eq_true] at h
    cases m with
    | zero => exact h.1
    | succ m =>
      have := wires_at h.2 m (by simpa using hm)
      rw [show j + (m + 1) = j + 1 + m by omega]
      simpa using this
theorem net_at {xs : List GAgent} : ∀ {l : List GAgent} {i : Nat}, netFrom xs l i = true → ∀ (k : Nat) (hk : k < l.length), wiresFrom xs (i + k) l[k].Ports 0 = true
  | [], _, _, k, hk => by simp at hk
  | x :: l, i, h, k, hk => by
    simp only [netFrom, Bool.and_eq_true] at h
    cases k with
    | zero => exact h.1
    | succ k =>
      have := net_at h.2 k (by simpa using hk)
      rw [show i + (k + 1) = i + 1 + k by omega]
      simpa using this
end Go.Ab
namespace Go.Ab
open Go
set_option maxRecDepth 10000
end Go.Ab
namespace Go.Ab
open Go
set_option maxRecDepth 10000
def fzp (n id : Nat) (o : Option AObj) (st : VSt) : VSt := match o with
  | some (.row w [v] true) => if w = 0 then st else { s := (n, .ept v 0) :: st.s, l := st.l, h := st.h.set id .dead }
  | _ => st
def fzo (n : Nat) (v : Option AV) (st : VSt) : VSt := match v with
  | none => st
  | some (.ept _ _) => st
  | some (.lst _ _ _) => st
  | some (.int _ _) => st
  | some (.bool _) => st
  | some .nils => st
  | some (.agg _) => st
  | some (.ptr id 0 0) => fzp n id st.h[id]? st
  | _ => frz1 n st
section
variable {n id : Nat} {s m : LEnv} {h : List AObj} {v x : AV} {st : VSt}
@[go_sem] theorem fz_go : frz1 n ⟨s, m, h⟩ = fzo n (get s n) ⟨s, m, h⟩ := by
  unfold fzo
  split <;> rename_i e <;> try (simp only [frz1, e]; done)
  · simp only [frz1, e, fzp]
    split <;> rename_i e2 <;> simp only [e2]
    · split <;> split <;> first | rfl | omega
@[go_sem] theorem get_nil : get [] n = none := nr rfl
@[go_sem] theorem fzo_none : fzo n none st = st := nr rfl
@[go_sem] theorem fzo_ept {j : Nat} : fzo n (some (.ept v j)) st = st := nr rfl
@[go_sem] theorem fzo_lst {w : Nat} {xs : List AV} {c : Bool} : fzo n (some (.lst w xs c)) st = st := nr rfl
@[go_sem] theorem fzo_nils : fzo n (some .nils) st = st := nr rfl
@[go_sem] theorem fzo_int {k : IntKind} {i : Int} : fzo n (some (.int k i)) st = st := nr rfl
@[go_sem] theorem fzo_ptr : fzo n (some (.ptr id 0 0)) ⟨s, m, h⟩ = fzp n id h[id]? ⟨s, m, h⟩ := nr rfl
@[go_sem] theorem fzp_row {w : Nat} : fzp n id (some (.row w [v] true)) ⟨s, m, h⟩ = if w = 0 then ⟨s, m, h⟩ else ⟨(n, .ept v 0) :: s, m, h.set id .dead⟩ := nr rfl
end
end Go.Ab
namespace Go.Ab
open Go
set_option maxRecDepth 10000
theorem c397 {f : AV} (p : Int → Bool) (hft : f.tree = true) (xs : List Int) (hf : ∀ x ∈ xs, PureV Gm f [encI x] (.bool (p x))) (hl : xs.length ≤ 1048576) : Pure Gm 397 [.lst 1 (xs.map encI) false, f] (.bool (xs.any p)) :=
  ctnF_ok shI (gc := 774) g397 g774 f p hft xs hf hl
theorem c859 {f : AV} (p : GNet → Bool) (hft : f.tree = true) (xs : List GNet) (hf : ∀ x ∈ xs, PureV Gm f [x.enc] (.bool (p x))) (hl : xs.length ≤ 1048576) : Pure Gm 859 [.lst 1 (xs.map GNet.enc) false, f] (.bool (xs.any p)) :=
  ctnF_ok GNet.isSh (gc := 1179) g859 g1179 f p hft xs hf hl
theorem c712 {f : AV} (p : GPort → Bool) (hft : f.tree = true) (xs : List GPort) (hf : ∀ x ∈ xs, PureV Gm f [x.enc] (.bool (p x))) (hl : xs.length ≤ 1048576) : Pure Gm 712 [.lst 2 (xs.map GPort.enc) false, f] (.bool (xs.any p)) :=
  ctnF_ok GPort.isSh (gc := 1098) g712 g1098 f p hft xs hf hl
theorem c1112 {f : AV} (p : GOrigin → Bool) (hft : f.tree = true) (xs : List GOrigin) (hf : ∀ x ∈ xs, PureV Gm f [x.enc] (.bool (p x))) (hl : xs.length ≤ 1048576) : Pure Gm 1112 [.lst 3 (xs.map GOrigin.enc) false, f] (.bool (xs.any p)) :=
  ctnF_ok GOrigin.isSh (gc := 1397) g1112 g1397 f p hft xs hf hl
theorem c748 {f : AV} (p : GBreak → Bool) (hft : f.tree = true) (xs : List GBreak) (hf : ∀ x ∈ xs, PureV Gm f [x.enc] (.bool (p x))) (hl : xs.length ≤ 1048576) : Pure Gm 748 [.lst 2 (xs.map GBreak.enc) false, f] (.bool (xs.any p)) :=
  ctnF_ok GBreak.isSh (gc := 771) g748 g771 f p hft xs hf hl
theorem any_not {α : Type} (p : α → Bool) (xs : List α) : (!xs.any fun x => !p x) = xs.all p := by
  induction xs with
  | nil => rfl
  | cons x xs ih => simp only [List.any_cons, List.all_cons, Bool.not_or, Bool.not_not, ih]
theorem c775 {n : Int} : Pure Gm 775 [.int .i64 n] (.bool (!inI n 0 600)) := by
  refine Pure.intro [] [] g775 (by kernel_rfl) rfl (by simp [AV.trees, AV.tree, go_sem]) rfl ?_
  simp only [F775, vparams, go_sem, Nat.reduceEqDiff, reduceIte, eq_self]
  repeat' (first | (refine lbox_ok rfl ?_; simp only [go_sem, Nat.reduceEqDiff, reduceIte, Bool.not_true, Bool.not_false, Bool.false_eq_true, List.length_cons, List.length_nil, Nat.reduceAdd, List.getElem?_cons_zero, List.getElem?_cons_succ, decide_true, eq_self, List.length_map]) | (first | (refine grd_split ?_ ?_ <;> intro hc <;> simp only [hc, go_sem, Nat.reduceEqDiff, reduceIte, Bool.not_false, eq_self]) | (refine cnd_split ?_ ?_ <;> intro hc <;> simp only [hc, go_sem, Nat.reduceEqDiff, reduceIte, Bool.not_true, Bool.not_false, Bool.false_eq_true, List.length_cons, List.length_nil, Nat.reduceAdd, List.getElem?_cons_zero, List.getElem?_cons_succ, decide_true, eq_self, List.length_map])) | refine fin_eq rfl ?_)
  all_goals ((simp only [inI, AV.bool.injEq]; rw [Bool.eq_iff_iff]; simp at *; try omega))
theorem c406 {xs : List Int} (hl : xs.length ≤ 1048576) : Pure Gm 406 [.lst 1 (xs.map encI) false] (.bool (schedOk xs)) := by
  refine Pure.intro [] [] g406 (by kernel_rfl) rfl (by simp [AV.trees, AV.tree, trees_map shI.tree]) rfl ?_
  simp only [F406, vparams, go_sem, Nat.reduceEqDiff, reduceIte, eq_self, List.length_map]
  first | (refine grd_split ?_ ?_ <;> intro hc <;> simp only [hc, go_sem, Nat.reduceEqDiff, reduceIte, Bool.not_true, eq_self]) | (refine cnd_split ?_ ?_ <;> intro hc <;> simp only [hc, go_sem, Nat.reduceEqDiff, reduceIte, Bool.not_true, Bool.not_false, Bool.false_eq_true, List.length_cons, List.length_nil, Nat.reduceAdd, List.getElem?_cons_zero, List.getElem?_cons_succ, decide_true, eq_self, List.length_map])
  · refine call_pure (c397 (f := .fn 775 []) (fun n => !inI n 0 600) rfl xs (fun x _ => ⟨775, [], rfl, c775⟩) hl) ?_
    simp only [go_sem, Nat.reduceEqDiff, reduceIte, eq_self]
    refine fin_eq rfl ?_
    rw [any_not]
    simp_all [schedOk] <;> omega
  · refine fin_eq rfl ?_
    simp_all [schedOk] <;> omega
theorem c1487 {k : Int} : Pure Gm 1487 [.int .i64 k] (.bool (kindI k)) := by
  refine Pure.intro [] [] g1487 (by kernel_rfl) rfl (by simp [AV.trees, AV.tree, go_sem]) rfl ?_
  simp only [F1487, vparams, go_sem, Nat.reduceEqDiff, reduceIte, eq_self]
  repeat' (first | (refine lbox_ok rfl ?_; simp only [go_sem, Nat.reduceEqDiff, reduceIte, Bool.not_true, Bool.not_false, Bool.false_eq_true, List.length_cons, List.length_nil, Nat.reduceAdd, List.getElem?_cons_zero, List.getElem?_cons_succ, decide_true, eq_self, List.length_map]) | (first | (refine grd_split ?_ ?_ <;> intro hc <;> simp only [hc, go_sem, Nat.reduceEqDiff, reduceIte, Bool.not_true, eq_self]) | (refine cnd_split ?_ ?_ <;> intro hc <;> simp only [hc, go_sem, Nat.reduceEqDiff, reduceIte, Bool.not_true, Bool.not_false, Bool.false_eq_true, List.length_cons, List.length_nil, Nat.reduceAdd, List.getElem?_cons_zero, List.getElem?_cons_succ, decide_true, eq_self, List.length_map])) | refine fin_eq rfl ?_)
  all_goals ((simp only [kindI, inI, AV.bool.injEq]; rw [Bool.eq_iff_iff]; simp at *; try omega))
theorem c1375 {k : Int} : Pure Gm 1375 [.int .i64 k] (.bool (hasLevel k)) := by
  refine Pure.intro [] [] g1375 (by kernel_rfl) rfl (by simp [AV.trees, AV.tree, go_sem]) rfl ?_
  simp only [F1375, vparams, go_sem, Nat.reduceEqDiff, reduceIte, Bool.not_true, eq_self]
  repeat' (first | (refine lbox_ok rfl ?_; simp only [go_sem, Nat.reduceEqDiff, reduceIte, Bool.not_true, Bool.not_false, Bool.false_eq_true, List.length_cons, List.length_nil, Nat.reduceAdd, List.getElem?_cons_zero, List.getElem?_cons_succ, decide_true, eq_self, List.length_map]) | (first | (refine grd_split ?_ ?_ <;> intro hc <;> simp only [hc, go_sem, Nat.reduceEqDiff, reduceIte, Bool.not_true, eq_self]) | (refine cnd_split ?_ ?_ <;> intro hc <;> simp only [hc, go_sem, Nat.reduceEqDiff, reduceIte, Bool.not_true, Bool.not_false, Bool.false_eq_true, List.length_cons, List.length_nil, Nat.reduceAdd, List.getElem?_cons_zero, List.getElem?_cons_succ, decide_true, eq_self, List.length_map])) | (refine call_pure (c1487) ?_; simp only [go_sem, Nat.reduceEqDiff, reduceIte, eq_self]) | refine fin_eq rfl ?_)
  all_goals ((simp only [hasLevel, kindI, inI, AV.bool.injEq] at *; rw [Bool.eq_iff_iff]; simp at *; try omega))
theorem c1495 {l : Int} : Pure Gm 1495 [.int .i64 l] (.bool (inI l 0 8)) := by
  refine Pure.intro [] [] g1495 (by kernel_rfl) rfl (by simp [AV.trees, AV.tree, go_sem]) rfl ?_
  simp only [F1495, vparams, go_sem, Nat.reduceEqDiff, reduceIte, eq_self]
  repeat' (first | (refine lbox_ok rfl ?_; simp only [go_sem, Nat.reduceEqDiff, reduceIte, Bool.not_true, Bool.not_false, Bool.false_eq_true, List.length_cons, List.length_nil, Nat.reduceAdd, List.getElem?_cons_zero, List.getElem?_cons_succ, decide_true, eq_self, List.length_map]) | (first | (refine grd_split ?_ ?_ <;> intro hc <;> simp only [hc, go_sem, Nat.reduceEqDiff, reduceIte, Bool.not_true, eq_self]) | (refine cnd_split ?_ ?_ <;> intro hc <;> simp only [hc, go_sem, Nat.reduceEqDiff, reduceIte, Bool.not_true, Bool.not_false, Bool.false_eq_true, List.length_cons, List.length_nil, Nat.reduceAdd, List.getElem?_cons_zero, List.getElem?_cons_succ, decide_true, eq_self, List.length_map])) | refine fin_eq rfl ?_)
  all_goals ((simp only [inI, AV.bool.injEq]; rw [Bool.eq_iff_iff]; simp at *; try omega))
theorem c1389 {k l : Int} : Pure Gm 1389 [.int .i64 k, .int .i64 l] (.bool (levelOk k l)) := by
  refine Pure.intro [] [] g1389 (by kernel_rfl) rfl (by simp [AV.trees, AV.tree, go_sem]) rfl ?_
  simp only [F1389, vparams, go_sem, Nat.reduceEqDiff, reduceIte, Bool.not_true, Nat.reduceAdd, eq_self]
  repeat' (first | (refine lbox_ok rfl ?_; simp only [go_sem, Nat.reduceEqDiff, reduceIte, Bool.not_true, Bool.not_false, Bool.false_eq_true, List.length_cons, List.length_nil, Nat.reduceAdd, List.getElem?_cons_zero, List.getElem?_cons_succ, decide_true, eq_self, List.length_map]) | (first | (refine grd_split ?_ ?_ <;> intro hc <;> simp only [hc, go_sem, Nat.reduceEqDiff, reduceIte, Bool.not_true, Bool.not_false, eq_self]) | (refine cnd_split ?_ ?_ <;> intro hc <;> simp only [hc, go_sem, Nat.reduceEqDiff, reduceIte, Bool.not_true, Bool.not_false, Bool.false_eq_true, List.length_cons, List.length_nil, Nat.reduceAdd, List.getElem?_cons_zero, List.getElem?_cons_succ, decide_true, eq_self, List.length_map])) | (refine call_pure (c1487) ?_; simp only [go_sem, Nat.reduceEqDiff, reduceIte, eq_self]) | (refine call_pure (c1375) ?_; simp only [go_sem, Nat.reduceEqDiff, reduceIte, eq_self]) | (refine call_pure (c1495) ?_; simp only [go_sem, Nat.reduceEqDiff, reduceIte, eq_self]) | refine fin_eq rfl ?_)
  all_goals ((unfold levelOk; split <;> (simp only [hasLevel, kindI, inI, AV.bool.injEq] at * <;> (rw [Bool.eq_iff_iff]; simp at * <;> try omega))))
theorem c796 {n : Int} : Pure Gm 796 [.int .i64 n] (.bool (defOk n)) := by
  refine Pure.intro [] [] g796 (by kernel_rfl) rfl (by simp [AV.trees, AV.tree, go_sem]) rfl ?_
  simp only [F796, vparams, go_sem, Nat.reduceEqDiff, reduceIte, eq_self]
  repeat' (first | (refine lbox_ok rfl ?_; simp only [go_sem, Nat.reduceEqDiff, reduceIte, Bool.not_true, Bool.not_false, Bool.false_eq_true, List.length_cons, List.length_nil, Nat.reduceAdd, List.getElem?_cons_zero, List.getElem?_cons_succ, decide_true, eq_self, List.length_map]) | (first | (refine grd_split ?_ ?_ <;> intro hc <;> simp only [hc, go_sem, Nat.reduceEqDiff, reduceIte, Bool.not_true, eq_self]) | (refine cnd_split ?_ ?_ <;> intro hc <;> simp only [hc, go_sem, Nat.reduceEqDiff, reduceIte, Bool.not_true, Bool.not_false, Bool.false_eq_true, List.length_cons, List.length_nil, Nat.reduceAdd, List.getElem?_cons_zero, List.getElem?_cons_succ, decide_true, eq_self, List.length_map])) | refine fin_eq rfl ?_)
  all_goals (simp_all [defOk, inI] <;> omega)
theorem c1050 {n : Int} : Pure Gm 1050 [.int .i64 n] (.bool (inI n 1 6)) := by
  refine Pure.intro [] [] g1050 (by kernel_rfl) rfl (by simp [AV.trees, AV.tree, go_sem]) rfl ?_
  simp only [F1050, vparams, go_sem, Nat.reduceEqDiff, reduceIte, eq_self]
  repeat' (first | (refine lbox_ok rfl ?_; simp only [go_sem, Nat.reduceEqDiff, reduceIte, Bool.not_true, Bool.not_false, Bool.false_eq_true, List.length_cons, List.length_nil, Nat.reduceAdd, List.getElem?_cons_zero, List.getElem?_cons_succ, decide_true, eq_self, List.length_map]) | (first | (refine grd_split ?_ ?_ <;> intro hc <;> simp only [hc, go_sem, Nat.reduceEqDiff, reduceIte, Bool.not_true, eq_self]) | (refine cnd_split ?_ ?_ <;> intro hc <;> simp only [hc, go_sem, Nat.reduceEqDiff, reduceIte, Bool.not_true, Bool.not_false, Bool.false_eq_true, List.length_cons, List.length_nil, Nat.reduceAdd, List.getElem?_cons_zero, List.getElem?_cons_succ, decide_true, eq_self, List.length_map])) | refine fin_eq rfl ?_)
  all_goals ((simp only [inI, AV.bool.injEq]; rw [Bool.eq_iff_iff]; simp at *; try omega))
theorem c1051 {n : Int} : Pure Gm 1051 [.int .i64 n] (.bool (inI n (-2147483648) 2147483647)) := by
  refine Pure.intro [] [] g1051 (by kernel_rfl) rfl (by simp [AV.trees, AV.tree, go_sem]) rfl ?_
  simp only [F1051, vparams, go_sem, Nat.reduceEqDiff, reduceIte, eq_self]
  repeat' (first | (refine lbox_ok rfl ?_; simp only [go_sem, Nat.reduceEqDiff, reduceIte, Bool.not_true, Bool.not_false, Bool.false_eq_true, List.length_cons, List.length_nil, Nat.reduceAdd, List.getElem?_cons_zero, List.getElem?_cons_succ, decide_true, eq_self, List.length_map]) | (first | (refine grd_split ?_ ?_ <;> intro hc <;> simp only [hc, go_sem, Nat.reduceEqDiff, reduceIte, Bool.not_true, eq_self]) | (refine cnd_split ?_ ?_ <;> intro hc <;> simp only [hc, go_sem, Nat.reduceEqDiff, reduceIte, Bool.not_true, Bool.not_false, Bool.false_eq_true, List.length_cons, List.length_nil, Nat.reduceAdd, List.getElem?_cons_zero, List.getElem?_cons_succ, decide_true, eq_self, List.length_map])) | refine fin_eq rfl ?_)
  all_goals ((simp only [inI, AV.bool.injEq]; rw [Bool.eq_iff_iff]; simp at *; try omega))
theorem c1390 {n : Int} : Pure Gm 1390 [.int .i64 n] (.bool (!defOk n)) := by
  refine Pure.intro [] [] g1390 (by kernel_rfl) rfl (by simp [AV.trees, AV.tree, go_sem]) rfl ?_
  simp only [F1390, vparams, go_sem, Nat.reduceEqDiff, reduceIte, Bool.not_true, eq_self]
  repeat' (first | (refine lbox_ok rfl ?_; simp only [go_sem, Nat.reduceEqDiff, reduceIte, Bool.not_true, Bool.not_false, Bool.false_eq_true, List.length_cons, List.length_nil, Nat.reduceAdd, List.getElem?_cons_zero, List.getElem?_cons_succ, decide_true, eq_self, List.length_map]) | (first | (refine grd_split ?_ ?_ <;> intro hc <;> simp only [hc, go_sem, Nat.reduceEqDiff, reduceIte, Bool.not_true, Bool.not_false, Bool.false_eq_true, List.length_cons, List.length_nil, Nat.reduceAdd, List.getElem?_cons_zero, List.getElem?_cons_succ, decide_true, eq_self, List.length_map]) | (refine cnd_split ?_ ?_ <;> intro hc <;> simp only [hc, go_sem, Nat.reduceEqDiff, reduceIte, Bool.not_true, Bool.not_false, Bool.false_eq_true, List.length_cons, List.length_nil, Nat.reduceAdd, List.getElem?_cons_zero, List.getElem?_cons_succ, decide_true, eq_self, List.length_map])) | (refine call_pure (c796) ?_; simp only [go_sem, Nat.reduceEqDiff, reduceIte, eq_self]) | refine fin_eq rfl ?_)
  all_goals (simp_all)
end Go.Ab
namespace Go.Ab
open Go
set_option maxRecDepth 10000
theorem put_eq {E : Ev} {o : Option AV} {v : AV} {k : Nat} {l : List AOper} {ks : List Fr1} {s m : LEnv} {h : List AObj} {Q : AExit → VSt → Prop} (ho : o = some v) (hr : R E (.ops l :: ks) ⟨(k, v) :: s, m, h⟩ Q) : Put E o (some k) l ks ⟨s, m, h⟩ Q := by
  subst ho; rw [put_some]; exact hr
theorem c1388 {k : Int} {n : Nat} (hn : n ≤ 1048576) : Pure Gm 1388 [.int .i64 k, .int .i64 (n : Int)] (.int .i64 (if k = 9 then (n : Int) - 1 else 0)) := by
  refine Pure.intro [] [] g1388 (by kernel_rfl) rfl (by simp [AV.trees, AV.tree, go_sem]) rfl ?_
  simp only [F1388, vparams, go_sem, Nat.reduceEqDiff, reduceIte, Nat.reduceAdd, eq_self]
  refine cnd_split ?_ ?_ <;> intro hc <;> simp only [hc, go_sem, Nat.reduceEqDiff, reduceIte, eq_self]
  · rw [wrap_small (by omega) (by omega)]
    refine fin_eq rfl ?_
    simp_all
  · refine fin_eq rfl ?_
    simp_all
theorem c1387 {k f : Int} : Pure Gm 1387 [.int .i64 k, .int .i64 f] (.int .i64 (portsOf k f)) := by
  refine Pure.intro [] [] g1387 (by kernel_rfl) rfl (by simp [AV.trees, AV.tree, go_sem]) rfl ?_
  simp only [F1387, vparams, go_sem, Nat.reduceEqDiff, reduceIte, Nat.reduceAdd, eq_self]
  repeat' (first
    | (first | (refine grd_split ?_ ?_ <;> intro hc <;> simp only [hc, go_sem, Nat.reduceEqDiff, reduceIte, Bool.not_true, Bool.not_false, eq_self]) | (refine cnd_split ?_ ?_ <;> intro hc <;> simp only [hc, go_sem, Nat.reduceEqDiff, reduceIte, Bool.not_true, List.length_cons, List.length_nil, Nat.reduceAdd, eq_self]))
    | (refine call_pure c1487 ?_; simp only [go_sem, Nat.reduceEqDiff, reduceIte, eq_self])
    | refine fin_eq rfl ?_)
  all_goals simp only [Bool.not_eq_false', Bool.not_eq_true', Bool.not_true, Bool.not_false, decide_eq_true_eq, decide_eq_false_iff_not, kindI, inI, Bool.and_eq_true, Bool.and_eq_false_iff] at *
  case refine_2.refine_1.refine_1.refine_2 =>
    subst hc
    have : k = 1 ∨ k = 2 ∨ k = 3 ∨ k = 4 ∨ k = 5 ∨ k = 6 ∨ k = 7 ∨ k = 8 ∨ k = 10 ∨ k = 11 ∨ k = 12 := by omega
    rcases this with rfl | rfl | rfl | rfl | rfl | rfl | rfl | rfl | rfl | rfl | rfl
    all_goals
      first | refine put_eq (v := .int .i64 1) rfl ?_ | refine put_eq (v := .int .i64 2) rfl ?_ | refine put_eq (v := .int .i64 3) rfl ?_
      simp only [go_sem, Nat.reduceEqDiff, reduceIte, eq_self]
      refine fin_eq rfl rfl
  all_goals try rw [wrap_small (by omega) (by omega)]
  all_goals (simp only [portsOf, inI, AV.int.injEq, true_and, Bool.and_eq_true, decide_eq_true_eq]; repeat' split)
  all_goals try omega
theorem c801 {n m : Int} : Pure Gm 801 [.int .i64 n, .ept (.int .i64 m) 0] (.bool (!inI n 0 m)) := by
  refine Pure.intro [] [] g801 (by kernel_rfl) rfl (by simp [AV.trees, AV.tree, go_sem]) rfl ?_
  simp only [F801, vparams, go_sem, Nat.reduceEqDiff, reduceIte, Nat.reduceAdd, eq_self]
  repeat' (first | (refine lbox_ok rfl ?_; simp only [go_sem, Nat.reduceEqDiff, reduceIte, Bool.not_true, Bool.not_false, Bool.false_eq_true, List.length_cons, List.length_nil, Nat.reduceAdd, List.getElem?_cons_zero, List.getElem?_cons_succ, decide_true, eq_self, List.length_map]) | (first | (refine grd_split ?_ ?_ <;> intro hc <;> simp only [hc, go_sem, Nat.reduceEqDiff, reduceIte, Bool.not_false, eq_self]) | (refine cnd_split ?_ ?_ <;> intro hc <;> simp only [hc, go_sem, Nat.reduceEqDiff, reduceIte, Bool.not_true, Bool.not_false, Bool.false_eq_true, List.length_cons, List.length_nil, Nat.reduceAdd, List.getElem?_cons_zero, List.getElem?_cons_succ, decide_true, eq_self, List.length_map])) | refine fin_eq rfl ?_)
  all_goals ((simp only [inI, AV.bool.injEq]; rw [Bool.eq_iff_iff]; simp at *; try omega))
theorem c436 {m : Int} {xs : List Int} (hl : xs.length ≤ 1048576) : Pure Gm 436 [.int .i64 m, .lst 1 (xs.map encI) false] (.bool (xs.all fun n => inI n 0 m)) := by
  refine Pure.intro [2] [] g436 (by kernel_rfl) rfl (by simp [AV.trees, AV.tree, trees_map shI.tree]) rfl ?_
  simp only [F436, vparams, go_sem, Nat.reduceEqDiff, reduceIte, Nat.reduceAdd, eq_self]
  refine hbox_ok rfl ?_
  simp only [go_sem, Nat.reduceEqDiff, reduceIte, Bool.not_true, List.length_nil, List.getElem?_cons_zero, eq_self, List.nil_append, List.set_cons_zero]
  refine call_pure (c397 (f := .fn 801 [.ept (.int .i64 m) 0]) (fun n => !inI n 0 m) rfl xs (fun x _ => ⟨801, _, rfl, c801⟩) hl) ?_
  simp only [go_sem, Nat.reduceEqDiff, reduceIte, eq_self]
  refine fin_eq rfl ?_
  rw [any_not]
end Go.Ab
namespace Go.Ab
open Go
set_option maxRecDepth 10000
set_option maxHeartbeats 2000000
theorem c1388' {x : GAgent} (hn : x.Ports.length ≤ 1048576) : Pure Gm 1388 [.int .i64 x.Kind, .int .i64 (x.Ports.length : Int)] (.int .i64 (fieldsOf x)) := c1388 hn
theorem agentOk_eq {x : GAgent} (h1 : ¬ (x.Ports.length : Int) = 0) (h2 : portsOf x.Kind (fieldsOf x) = x.Ports.length) (h3 : levelOk x.Kind x.Level = true) : agentOk x = contentOk x := by
  have h : (0 : Int) < x.Ports.length := by omega
  unfold agentOk
  rw [h2, h3]
  simp only [decide_eq_true h, decide_true, Bool.true_and]
theorem c1097 {x : GAgent} (hd : x.Data.length ≤ 1048576) (hn : x.Ports.length ≤ 1048576) : Pure Gm 1097 [x.enc] (.bool (agentOk x)) := by
  refine Pure.intro [] [] g1097 (by kernel_rfl) rfl (by simp [AV.trees, go_sem]) rfl ?_
  simp only [F1097, vparams, go_sem, reduceIte, eq_self]
  repeat' (first
    | (refine lbox_ok rfl ?_; simp only [go_sem, Nat.reduceEqDiff, reduceIte, eq_self, List.length_map])
    | (first | (refine grd_split ?_ ?_ <;> intro hc <;> simp only [hc, go_sem, Nat.reduceEqDiff, reduceIte, Bool.not_true, Bool.not_false, eq_self, List.length_map]) | (refine cnd_split ?_ ?_ <;> intro hc <;> simp only [hc, go_sem, Nat.reduceEqDiff, reduceIte, Bool.not_true, eq_self, List.length_map]))
    | (refine call_pure (c1388' hn) ?_; simp only [go_sem, Nat.reduceEqDiff, reduceIte, Bool.not_true, eq_self])
    | (refine call_pure c1387 ?_; simp only [go_sem, Nat.reduceEqDiff, reduceIte, eq_self])
    | (refine call_pure c1389 ?_; simp only [go_sem, Nat.reduceEqDiff, reduceIte, eq_self])
    | (refine call_pure (c397 (f := .fn 1390 []) (fun n => !defOk n) rfl x.Data (fun _ _ => ⟨1390, [], rfl, c1390⟩) hd) ?_; simp only [any_not, go_sem, Nat.reduceEqDiff, reduceIte, eq_self])
    | (refine call_pure c1050 ?_; simp only [go_sem, Nat.reduceEqDiff, reduceIte, eq_self])
    | (refine call_pure c1051 ?_; simp only [go_sem, Nat.reduceEqDiff, reduceIte, eq_self])
    | (refine call_pure c796 ?_; simp only [go_sem, Nat.reduceEqDiff, reduceIte, eq_self])
    | refine fin_eq rfl ?_)
  case refine_1.refine_1.refine_2.refine_2.refine_2.refine_1.refine_1.refine_1 =>
    obtain ⟨d, hd1⟩ : ∃ d, x.Data = [d] := List.length_eq_one_iff.1 (by have := of_decide_eq_true hc; omega)
    simp only [hd1, List.map_cons, List.map_nil, encI, go_sem, List.length_cons, List.length_nil, Nat.reduceAdd, List.getElem?_cons_zero]
    simp only [Option.map_some, go_sem, Nat.reduceEqDiff, reduceIte, Bool.not_true, eq_self]
    refine call_pure c1051 ?_
    simp only [go_sem, Nat.reduceEqDiff, reduceIte, eq_self]
    refine fin_eq rfl ?_
    simp only [Bool.not_eq_false', decide_eq_true_eq, decide_eq_false_iff_not] at *
    rw [agentOk_eq (by assumption) (by assumption) (by assumption)]; simp [contentOk, *]
  all_goals simp only [Bool.not_true, Bool.not_false, Bool.not_eq_true', Bool.not_eq_false', decide_eq_true_eq, decide_eq_false_iff_not] at *
  all_goals first
    | (rw [agentOk_eq (by assumption) (by assumption) (by assumption)]; simp only [AV.bool.injEq]; rw [Bool.eq_iff_iff]; simp [contentOk, *]; done)
    | (rw [agentOk_eq (by assumption) (by assumption) (by assumption)]; simp only [AV.bool.injEq]; rw [Bool.eq_iff_iff]; simp [contentOk, inI, *]; omega)
    | (rw [agentOk_eq (by assumption) (by assumption) (by assumption)]; simp only [AV.bool.injEq]; rw [Bool.eq_iff_iff]; simp [contentOk, inI, *]; done)
    | (simp [agentOk, *]; done)
    | (simp [agentOk, *]; omega)
    | trace_state
end Go.Ab
namespace Go.Ab
open Go
set_option maxRecDepth 10000
set_option maxHeartbeats 2000000
theorem c711 {xs : List GAgent} (hl : xs.length + sumN GAgent.sz xs ≤ 1048576) : Pure Gm 711 [.lst 5 (xs.map GAgent.enc) false] (.bool (agentsOk xs)) := by
  refine Pure.intro [] [] g711 (by kernel_rfl) rfl (by simp [AV.trees, AV.tree, trees_map GAgent.isSh.tree]) rfl ?_
  simp only [F711, vparams, go_sem, Nat.reduceEqDiff, reduceIte, eq_self, List.length_map]
  have fin (h1 : 1 ≤ xs.length) (h2 : xs.length ≤ 600) : agentsOk xs = agentsFrom xs 0 := by
    unfold agentsOk inI; rw [decide_eq_true (by omega), decide_eq_true (by omega)]; rfl
  first | (refine grd_split ?_ ?_ <;> intro hc <;> simp only [hc, go_sem, Nat.reduceEqDiff, reduceIte, Bool.not_false, eq_self, List.length_map]) | (refine cnd_split ?_ ?_ <;> intro hc <;> simp only [hc, go_sem, Nat.reduceEqDiff, reduceIte, Bool.not_true, Bool.not_false, Bool.false_eq_true, List.length_cons, List.length_nil, Nat.reduceAdd, List.getElem?_cons_zero, List.getElem?_cons_succ, decide_true, eq_self, List.length_map])
  · first | (refine grd_split ?_ ?_ <;> intro hc <;> simp only [hc, go_sem, Nat.reduceEqDiff, reduceIte, Bool.not_true, Bool.not_false, Bool.false_eq_true, List.length_cons, List.length_nil, Nat.reduceAdd, List.getElem?_cons_zero, List.getElem?_cons_succ, decide_true, eq_self, List.length_map]) | (refine cnd_split ?_ ?_ <;> intro hc <;> simp only [hc, go_sem, Nat.reduceEqDiff, reduceIte, eq_self, List.length_map])
    · refine fin_eq rfl ?_
      simp only [AV.bool.injEq, agentsOk, inI]; simp at *; omega
    · have h1 : 1 ≤ xs.length := by simp at *; omega
      have h2 : xs.length ≤ 600 := by simp at *; omega
      rw [fin h1 h2]
      refine Sem.loop (fun i : Nat => i ≤ xs.length ∧ agentsFrom xs 0 = agentsFrom (xs.drop i) i) (fun i => (⟨[(13, .lst 5 (xs.map GAgent.enc) false), (14, .int .i64 (xs.length : Int)), (15, .int .i64 (i : Nat))], [], []⟩ : VSt)) (fun i => xs.length - i) 0 (by kernel_rfl) ⟨Nat.zero_le _, by simp⟩ (Can.sub (by simp [go_sem]) (by simp [go_sem])) ?_
      rintro i ⟨hi, hI⟩
      simp only [go_sem, Nat.reduceEqDiff, reduceIte, eq_self]
      refine cnd_split ?_ ?_ <;> intro hc <;> simp only [hc, go_sem, Nat.reduceEqDiff, reduceIte, eq_self]
      · have hlt : i < xs.length := by have := of_decide_eq_true hc; omega
        simp only [List.getElem?_map, List.getElem?_eq_getElem hlt, Option.map_some, go_sem, Nat.reduceEqDiff, reduceIte, eq_self]
        have hs : xs[i].Data.length + xs[i].Ports.length ≤ sumN GAgent.sz xs := le_sumN (f := GAgent.sz) (List.getElem_mem hlt)
        refine lst_all (k := 5) (by rfl) (by rfl) (by exact ⟨_, rfl⟩) (by decide) ?_
        simp only [go_sem, Nat.reduceEqDiff, reduceIte, Bool.not_true, eq_self]
        refine call_pure (c1097 (by omega) (by omega)) ?_
        simp only [go_sem, Nat.reduceEqDiff, reduceIte, eq_self]
        first | (refine grd_split ?_ ?_ <;> intro hc <;> simp only [hc, go_sem, Nat.reduceEqDiff, reduceIte, Bool.not_false, eq_self]) | (refine cnd_split ?_ ?_ <;> intro hc <;> simp only [hc, go_sem, Nat.reduceEqDiff, reduceIte, Bool.not_true, Bool.not_false, Bool.false_eq_true, List.length_cons, List.length_nil, Nat.reduceAdd, List.getElem?_cons_zero, List.getElem?_cons_succ, decide_true, eq_self, List.length_map])
        · first | (refine grd_split ?_ ?_ <;> intro hc <;> simp only [hc, go_sem, Nat.reduceEqDiff, reduceIte, Bool.not_true, Bool.not_false, Bool.false_eq_true, List.length_cons, List.length_nil, Nat.reduceAdd, List.getElem?_cons_zero, List.getElem?_cons_succ, decide_true, eq_self, List.length_map]) | (refine cnd_split ?_ ?_ <;> intro hc <;> simp only [hc, go_sem, Nat.reduceEqDiff, reduceIte, eq_self])
          · refine fin_eq rfl ?_
            rw [hI, drop_at hlt]; simp_all [agentsFrom]
          · simp only [wrap_succ (show i < 4611686018427387904 by omega)]; refine loopQ_nrm (i + 1) ⟨by omega, ?_⟩ (by omega) (Can.sub (by simp [go_sem]) (by simp [go_sem]))
            rw [hI, drop_at hlt]; simp_all [agentsFrom]
        · refine fin_eq rfl ?_
          rw [hI, drop_at hlt]; simp_all [agentsFrom]
      · obtain rfl : i = xs.length := by have := of_decide_eq_false hc; omega
        refine fin_eq rfl ?_
        rw [hI]; simp [agentsFrom]
  · refine fin_eq rfl ?_
    simp only [AV.bool.injEq, agentsOk, inI]; simp at *; omega
theorem c555 {n : GNet} {a s : Nat} (ha : a < n.Agents.length) (hs : s < n.Agents[a].Ports.length) : Pure Gm 555 [.ept n.enc 0, GPort.enc ⟨(a : Int), (s : Int)⟩] (n.Agents[a].Ports[s].enc) := by
  refine Pure.intro [] [] g555 (by kernel_rfl) rfl (by simp [AV.trees, AV.tree, GNet.tr, GPort.tr]) (by exact GPort.tr) ?_
  simp only [F555, vparams, go_sem, Nat.reduceEqDiff, reduceIte, Nat.reduceAdd, eq_self]
  refine lbox_ok rfl ?_; simp only [go_sem, Nat.reduceEqDiff, reduceIte, Nat.reduceAdd, eq_self]
  simp only [List.getElem?_map, List.getElem?_eq_getElem ha, Option.map_some, go_sem, Nat.reduceEqDiff, reduceIte, Nat.reduceAdd, eq_self]
  simp only [List.getElem?_eq_getElem hs, Option.map_some, go_sem, Nat.reduceEqDiff, reduceIte, eq_self]
  refine lst_all (k := 2) (by rfl) (by rfl) (by exact ⟨_, rfl⟩) (by decide) ?_
  simp only [go_sem, Nat.reduceEqDiff, reduceIte, eq_self]
  refine fin_eq GPort.tr ?_
  rfl
end Go.Ab
namespace Go.Ab
open Go
set_option maxRecDepth 10000
set_option maxHeartbeats 2000000
theorem portOk_lt {xs : List GAgent} {p : GPort} (h : portOk xs p = true) : ∃ a s : Nat, p = ⟨a, s⟩ ∧ ∃ ha : a < xs.length, s < xs[a].Ports.length := by
  simp only [portOk, Bool.and_eq_true] at h
  have e1 := inI_iff.1 h.1
  have e2 := inI_iff.1 h.2
  have ha : p.Agent.toNat < xs.length := by omega
  simp only [portsLen, List.getElem?_eq_getElem ha] at e2
  refine ⟨p.Agent.toNat, p.Slot.toNat, ?_, ha, by omega⟩
  rw [Int.toNat_of_nonneg e1.1, Int.toNat_of_nonneg e2.1]
theorem c714 {xs : List GAgent} {p : GPort} : Pure Gm 714 [.lst 5 (xs.map GAgent.enc) false, p.enc] (.bool (portOk xs p)) := by
  refine Pure.intro [] [] g714 (by kernel_rfl) rfl (by simp [AV.trees, AV.tree, trees_map GAgent.isSh.tree, GPort.tr]) rfl ?_
  simp only [F714, vparams, go_sem, Nat.reduceEqDiff, reduceIte, Nat.reduceAdd, eq_self]
  refine lbox_ok rfl ?_; simp only [go_sem, Nat.reduceEqDiff, reduceIte, eq_self]
  have big (h0 : 0 ≤ p.Agent) (h1 : p.Agent < xs.length) : portOk xs p = (decide (0 ≤ p.Slot) && decide (p.Slot < (portsLen xs p.Agent : Int))) := by
    simp only [portOk, inI]; rw [Bool.eq_iff_iff]; simp; omega
  first | (refine grd_split ?_ ?_ <;> intro hc <;> simp only [hc, go_sem, Nat.reduceEqDiff, reduceIte, Bool.not_true, eq_self, List.length_map]) | (refine cnd_split ?_ ?_ <;> intro hc <;> simp only [hc, go_sem, Nat.reduceEqDiff, reduceIte, Bool.not_true, Bool.not_false, Bool.false_eq_true, List.length_cons, List.length_nil, Nat.reduceAdd, List.getElem?_cons_zero, List.getElem?_cons_succ, decide_true, eq_self, List.length_map])
  · first | (refine grd_split ?_ ?_ <;> intro hc <;> simp only [hc, go_sem, Nat.reduceEqDiff, reduceIte, Bool.not_true, eq_self]) | (refine cnd_split ?_ ?_ <;> intro hc <;> simp only [hc, go_sem, Nat.reduceEqDiff, reduceIte, Bool.not_true, Bool.not_false, Bool.false_eq_true, List.length_cons, List.length_nil, Nat.reduceAdd, List.getElem?_cons_zero, List.getElem?_cons_succ, decide_true, eq_self, List.length_map])
    · first | (refine grd_split ?_ ?_ <;> intro hc <;> simp only [hc, go_sem, Nat.reduceEqDiff, reduceIte, Bool.not_true, eq_self]) | (refine cnd_split ?_ ?_ <;> intro hc <;> simp only [hc, go_sem, Nat.reduceEqDiff, reduceIte, Bool.not_true, Bool.not_false, Bool.false_eq_true, List.length_cons, List.length_nil, Nat.reduceAdd, List.getElem?_cons_zero, List.getElem?_cons_succ, decide_true, eq_self, List.length_map])
      · have h0 : 0 ≤ p.Agent := by simp at *; omega
        have h1 : p.Agent < xs.length := by simp at *; omega
        have hlt : p.Agent.toNat < xs.length := by omega
        rw [idx_li h0]
        simp only [List.getElem?_map, List.getElem?_eq_getElem hlt, Option.map_some, go_sem, Nat.reduceEqDiff, reduceIte, Nat.reduceAdd, eq_self, List.length_map]
        refine fin_eq rfl ?_
        rw [big h0 h1]
        simp_all [portsLen]
      · refine fin_eq rfl ?_
        rw [big (by simp at *; omega) (by simp at *; omega)]
        simp_all
        try (intro h; omega)
    · refine fin_eq rfl ?_
      simp only [portOk, inI, AV.bool.injEq]; simp at *; omega
  · refine fin_eq rfl ?_
    simp only [portOk, inI, AV.bool.injEq]; simp at *; omega
theorem c713 {n : GNet} {a s : Nat} (ha : a < n.Agents.length) (hs : s < n.Agents[a].Ports.length) : Pure Gm 713 [GPort.enc ⟨(a : Int), (s : Int)⟩, .ept n.enc 0] (.bool (!wireOk n.Agents ⟨(a : Int), (s : Int)⟩ n.Agents[a].Ports[s])) := by
  refine Pure.intro [] [] g713 (by kernel_rfl) rfl (by simp [AV.trees, AV.tree, GNet.tr, GPort.tr]) rfl ?_
  simp only [F713, vparams, go_sem, Nat.reduceEqDiff, reduceIte, Nat.reduceAdd, eq_self]
  refine lbox_ok rfl ?_; simp only [go_sem, Nat.reduceEqDiff, reduceIte, Bool.not_true, eq_self]
  refine call_pure (c555 ha hs) ?_
  simp only [go_sem, Nat.reduceEqDiff, reduceIte, eq_self]
  refine lst_all (k := 2) (by rfl) (by rfl) (by exact ⟨_, rfl⟩) (by decide) ?_
  simp only [go_sem, Nat.reduceEqDiff, reduceIte, eq_self]
  obtain ⟨q, hq⟩ : ∃ q, q = n.Agents[a].Ports[s] := ⟨_, rfl⟩
  rw [← hq]
  first | (refine grd_split ?_ ?_ <;> intro hc <;> simp only [hc, go_sem, Nat.reduceEqDiff, reduceIte, Bool.not_true, Bool.not_false, Nat.reduceAdd, eq_self]) | (refine cnd_split ?_ ?_ <;> intro hc <;> simp only [hc, go_sem, Nat.reduceEqDiff, reduceIte, Bool.not_true, Bool.not_false, Bool.false_eq_true, List.length_cons, List.length_nil, Nat.reduceAdd, List.getElem?_cons_zero, List.getElem?_cons_succ, decide_true, eq_self, List.length_map])
  · refine call_pure c714 ?_
    simp only [go_sem, Nat.reduceEqDiff, reduceIte, eq_self]
    first | (refine grd_split ?_ ?_ <;> intro hc <;> simp only [hc, go_sem, Nat.reduceEqDiff, reduceIte, Bool.not_true, Bool.not_false, eq_self]) | (refine cnd_split ?_ ?_ <;> intro hc <;> simp only [hc, go_sem, Nat.reduceEqDiff, reduceIte, Bool.not_true, Bool.not_false, Bool.false_eq_true, List.length_cons, List.length_nil, Nat.reduceAdd, List.getElem?_cons_zero, List.getElem?_cons_succ, decide_true, eq_self, List.length_map])
    · have hp : portOk n.Agents q = true := by simpa using hc
      obtain ⟨a2, s2, rfl, ha2, hs2⟩ := portOk_lt hp
      refine call_pure (c555 ha2 hs2) ?_
      simp only [go_sem, Nat.reduceEqDiff, reduceIte, eq_self]
      refine fin_eq rfl ?_
      simp_all [wireOk, peerAt]
    · refine fin_eq rfl ?_
      simp_all [wireOk]
  · refine fin_eq rfl ?_
    simp_all [wireOk]
end Go.Ab
namespace Go.Ab
open Go
set_option maxRecDepth 10000
set_option maxHeartbeats 2000000
theorem sumN_app {α : Type} (f : α → Nat) : ∀ (xs ys : List α), sumN f (xs ++ ys) = sumN f xs + sumN f ys
  | [], ys => by simp [sumN]
  | x :: xs, ys => by simp only [List.cons_append, sumN, sumN_app f xs ys]; omega
theorem sumN_take {α : Type} (f : α → Nat) (xs : List α) (i : Nat) : sumN f (xs.take i) ≤ sumN f xs := by
  have := sumN_app f (xs.take i) (xs.drop i)
  rw [List.take_append_drop] at this
  omega
def slotsTo (i k : Nat) : List GPort := (List.range k).map fun s : Nat => ⟨(i : Int), (s : Int)⟩
theorem slotsTo_succ (i k : Nat) : slotsTo i (k + 1) = slotsTo i k ++ [⟨(i : Int), (k : Int)⟩] := by simp [slotsTo, List.range_succ]
def portsTo (xs : List GAgent) : Nat → List GPort
  | 0 => []
  | i + 1 => portsTo xs i ++ slotsTo i (portsLen xs (i : Int))
theorem portsTo_len (xs : List GAgent) : ∀ i, i ≤ xs.length → (portsTo xs i).length ≤ sumN GAgent.sz (xs.take i)
  | 0, _ => Nat.zero_le _
  | i + 1, h => by
    have := portsTo_len xs i (by omega)
    have hi : i < xs.length := by omega
    have e : xs.take (i + 1) = xs.take i ++ [xs[i]] := by simp [List.take_append_getElem]
    have e2 : sumN GAgent.sz (xs.take i ++ [xs[i]]) = sumN GAgent.sz (xs.take i) + GAgent.sz xs[i] := by
      rw [sumN_app]; rfl
    have e3 : xs[i].Ports.length ≤ GAgent.sz xs[i] := by unfold GAgent.sz; omega
    rw [e, e2]
    simp [portsTo, slotsTo, portsLen, List.getElem?_eq_getElem hi]
    omega
theorem c554 {n : GNet} (hz : n.sz ≤ 1048576) : Pure Gm 554 [.ept n.enc 0] (.lst 2 ((portsTo n.Agents n.Agents.length).map GPort.enc) false) := by
  refine Pure.intro [] [] g554 (by kernel_rfl) rfl (by simp [AV.trees, AV.tree, GNet.tr]) (by simp [AV.tree, trees_map GPort.isSh.tree]) ?_
  simp only [F554, vparams, go_sem, Nat.reduceEqDiff, reduceIte, Nat.reduceAdd, eq_self, List.length_map]
  unfold GNet.sz at hz
  refine Sem.loop (fun i : Nat => i ≤ n.Agents.length) (fun i => (⟨[(10, .lst 5 (n.Agents.map GAgent.enc) false), (11, .int .i64 (n.Agents.length : Int)), (12, .int .i64 (i : Nat)), (3, .slice 2 0 0 (portsTo n.Agents i).length false)], [], [.row 2 ((portsTo n.Agents i).map GPort.enc) true]⟩ : VSt)) (fun i => n.Agents.length - i) 0 (by kernel_rfl) (Nat.zero_le _) (Can.renum [none] rfl ⟨.ph, trivial⟩ ⟨⟨_, rfl, .tree (by simp [AV.tree, trees_map GAgent.isSh.tree])⟩, ⟨_, rfl, .tree rfl⟩, ⟨_, rfl, .tree rfl⟩, ⟨_, rfl, .ph rfl⟩, trivial⟩ trivial) ?_
  rintro i hi
  simp only [go_sem, Nat.reduceEqDiff, reduceIte, eq_self]
  refine cnd_split ?_ ?_ <;> intro hc <;> simp only [hc, go_sem, Nat.reduceEqDiff, reduceIte, eq_self]
  · have hlt : i < n.Agents.length := by have := of_decide_eq_true hc; omega
    simp only [List.getElem?_map, List.getElem?_eq_getElem hlt, Option.map_some, go_sem, Nat.reduceEqDiff, reduceIte, eq_self]
    refine lst_all (k := 5) (by rfl) (by rfl) (by exact ⟨_, rfl⟩) (by decide) ?_
    simp only [go_sem, Nat.reduceEqDiff, reduceIte, eq_self, List.length_map]
    have e0 : portsTo n.Agents i ++ slotsTo i 0 = portsTo n.Agents i := by simp [slotsTo]
    have hpl : n.Agents[i].Ports.length ≤ sumN GAgent.sz n.Agents := by
      have h1 : GAgent.sz n.Agents[i] ≤ sumN GAgent.sz n.Agents := le_sumN (f := GAgent.sz) (List.getElem_mem hlt)
      have h2 : n.Agents[i].Ports.length ≤ GAgent.sz n.Agents[i] := by unfold GAgent.sz; omega
      omega
    have htl := portsTo_len n.Agents i (by omega)
    have htt := sumN_take GAgent.sz n.Agents i
    refine Sem.loop (fun k : Nat => k ≤ n.Agents[i].Ports.length) (fun k => (⟨[(10, .lst 5 (n.Agents.map GAgent.enc) false), (11, .int .i64 (n.Agents.length : Int)), (12, .int .i64 (i : Nat)), (4, .int .i64 (i : Nat)), (19, .int .i64 (n.Agents[i].Ports.length : Int)), (20, .int .i64 (k : Nat)), (3, .slice 2 0 0 (portsTo n.Agents i ++ slotsTo i k).length false)], [], [.row 2 ((portsTo n.Agents i ++ slotsTo i k).map GPort.enc) true]⟩ : VSt)) (fun k => n.Agents[i].Ports.length - k) 0 (by kernel_rfl) (Nat.zero_le _) (by simp only [e0]; exact Can.sub (by simp [go_sem]) (by simp [go_sem])) ?_
    rintro k hk
    simp only [go_sem, Nat.reduceEqDiff, reduceIte, eq_self]
    refine cnd_split ?_ ?_ <;> intro hc <;> simp only [hc, go_sem, Nat.reduceEqDiff, reduceIte, List.length_cons, List.length_nil, Nat.reduceAdd, eq_self]
    · have hkl : k < n.Agents[i].Ports.length := by have := of_decide_eq_true hc; omega
      refine app_one (el := (portsTo n.Agents i ++ slotsTo i k).map GPort.enc) rfl rfl (by simp) (by simp [slotsTo]; omega) ?_
      simp only [go_sem, Nat.reduceEqDiff, reduceIte, eq_self]
      simp only [wrap_succ (show k < 4611686018427387904 by omega)]
      refine loopQ_nrm (k + 1) (by omega) (by omega) ?_
      have e1 : portsTo n.Agents i ++ slotsTo i (k + 1) = (portsTo n.Agents i ++ slotsTo i k) ++ [⟨(i : Int), (k : Int)⟩] := by rw [slotsTo_succ, List.append_assoc]
      simp only [e1, List.length_append, List.length_cons, List.length_nil, Nat.zero_add]
      refine Can.renum [some 2] rfl ⟨.row rfl ?_, trivial⟩ ⟨⟨_, rfl, .tree (by simp [AV.tree, trees_map GAgent.isSh.tree])⟩, ⟨_, rfl, .tree rfl⟩, ⟨_, rfl, .tree rfl⟩, ⟨_, rfl, .tree rfl⟩, ⟨_, rfl, .tree rfl⟩, ⟨_, rfl, .tree rfl⟩, ⟨_, rfl, .slice rfl⟩, trivial⟩ trivial
      have t := trees_map GPort.isSh.tree ((portsTo n.Agents i ++ slotsTo i k) ++ [⟨(i : Int), (k : Int)⟩])
      rw [List.map_append] at t
      rw [show ((portsTo n.Agents i ++ slotsTo i k) ++ [(⟨(i : Int), (k : Int)⟩ : GPort)]).map GPort.enc = (portsTo n.Agents i ++ slotsTo i k).map GPort.enc ++ [(⟨(i : Int), (k : Int)⟩ : GPort)].map GPort.enc from List.map_append]
      exact VR2s.trees t
    · obtain rfl : k = n.Agents[i].Ports.length := by have := of_decide_eq_false hc; omega
      simp only [wrap_succ (show i < 4611686018427387904 by omega)]
      refine loopQ_nrm (i + 1) (by omega) (by omega) ?_
      have e2 : portsTo n.Agents (i + 1) = portsTo n.Agents i ++ slotsTo i n.Agents[i].Ports.length := by simp [portsTo, portsLen, List.getElem?_eq_getElem hlt]
      rw [e2]
      exact Can.sub (by simp [go_sem]) (by simp [go_sem])
  · obtain rfl : i = n.Agents.length := by have := of_decide_eq_false hc; omega
    refine fin_cv (Cv.row rfl (by simp) (trees_map GPort.isSh.tree _) (by omega))
end Go.Ab
namespace Go.Ab
open Go
set_option maxRecDepth 10000
set_option maxHeartbeats 2000000
def peerOf (xs : List GAgent) (me : GPort) : GPort := (peerAt xs me).getD ⟨0, 0⟩
def meOk (xs : List GAgent) (me : GPort) : Bool := wireOk xs me (peerOf xs me)
theorem mem_slotsTo {i k : Nat} {q : GPort} : q ∈ slotsTo i k ↔ ∃ s : Nat, s < k ∧ q = ⟨i, s⟩ := by
  simp only [slotsTo, List.mem_map, List.mem_range]
  constructor
  · rintro ⟨s, h, rfl⟩; exact ⟨s, h, rfl⟩
  · rintro ⟨s, h, rfl⟩; exact ⟨s, h, rfl⟩
theorem mem_portsTo {xs : List GAgent} {q : GPort} : ∀ {m : Nat}, m ≤ xs.length → (q ∈ portsTo xs m ↔ ∃ (i : Nat) (hi : i < xs.length), i < m ∧ ∃ s : Nat, s < xs[i].Ports.length ∧ q = ⟨i, s⟩)
  | 0, _ => by simp [portsTo]
  | m + 1, hm => by
    have hml : m < xs.length := by omega
    simp only [portsTo, List.mem_append, mem_portsTo (xs := xs) (q := q) (m := m) (by omega), mem_slotsTo, portsLen, Int.toNat_natCast, List.getElem?_eq_getElem hml]
    constructor
    · rintro (⟨i, hi, h1, h2⟩ | h)
      · exact ⟨i, hi, by omega, h2⟩
      · exact ⟨m, hml, by omega, h⟩
    · rintro ⟨i, hi, h1, h2⟩
      by_cases e : i = m
      · subst e; exact .inr h2
      · exact .inl ⟨i, hi, by omega, h2⟩
theorem peerOf_at {xs : List GAgent} {a s : Nat} (ha : a < xs.length) (hs : s < xs[a].Ports.length) : peerOf xs ⟨a, s⟩ = xs[a].Ports[s] := by
  simp [peerOf, peerAt, List.getElem?_eq_getElem ha, List.getElem?_eq_getElem hs]
theorem wires_of {xs : List GAgent} {i : Nat} : ∀ {qs : List GPort} {j : Nat}, (∀ (m : Nat) (hm : m < qs.length), wireOk xs ⟨i, (j + m : Nat)⟩ qs[m] = true) → wiresFrom xs i qs j = true
  | [], _, _ => rfl
  | q :: qs, j, h => by
    simp only [wiresFrom, Bool.and_eq_true]
    refine ⟨h 0 (by simp), wires_of fun m hm => ?_⟩
    have := h (m + 1) (by simp; omega)
    rw [show j + (m + 1) = j + 1 + m by omega] at this
    simpa using this
theorem net_of {xs : List GAgent} : ∀ {l : List GAgent} {i : Nat}, (∀ (k : Nat) (hk : k < l.length), wiresFrom xs (i + k) l[k].Ports 0 = true) → netFrom xs l i = true
  | [], _, _ => rfl
  | x :: l, i, h => by
    simp only [netFrom, Bool.and_eq_true]
    refine ⟨h 0 (by simp), net_of fun k hk => ?_⟩
    have := h (k + 1) (by simp; omega)
    rw [show i + (k + 1) = i + 1 + k by omega] at this
    simpa using this
theorem ports_all (xs : List GAgent) : ((portsTo xs xs.length).all (meOk xs)) = netFrom xs xs 0 := by
  rw [Bool.eq_iff_iff, List.all_eq_true]
  constructor
  · intro h
    refine net_of fun k hk => wires_of fun m hm => ?_
    have := h ⟨k, m⟩ ((mem_portsTo (Nat.le_refl _)).2 ⟨k, hk, hk, m, hm, rfl⟩)
    rw [meOk, peerOf_at hk hm] at this
    simpa using this
  · intro h q hq
    obtain ⟨i, hi, _, s, hs, rfl⟩ := (mem_portsTo (Nat.le_refl _)).1 hq
    rw [meOk, peerOf_at hi hs]
    have := wires_at (net_at h i hi) s hs
    simpa using this
theorem c319 {n : GNet} (hz : n.sz ≤ 1048576) : Pure Gm 319 [n.enc] (.bool (netOk n)) := by
  refine Pure.intro [1] [] g319 (by kernel_rfl) rfl (by simp [AV.trees, GNet.tr]) rfl ?_
  simp only [F319, vparams, go_sem, Nat.reduceEqDiff, reduceIte, eq_self]
  have hz' := hz
  unfold GNet.sz at hz
  have hl : (portsTo n.Agents n.Agents.length).length ≤ 1048576 := by
    have h1 := portsTo_len n.Agents n.Agents.length (Nat.le_refl _)
    have h2 := sumN_take GAgent.sz n.Agents n.Agents.length
    omega
  refine hbox_ok rfl ?_
  simp only [go_sem, Nat.reduceEqDiff, reduceIte, Bool.not_true, List.length_nil, Nat.reduceAdd, List.getElem?_cons_zero, eq_self, List.nil_append, List.set_cons_zero]
  refine call_pure (c711 (by omega)) ?_
  simp only [go_sem, Nat.reduceEqDiff, reduceIte, eq_self]
  refine cnd_split ?_ ?_ <;> intro hc <;> simp only [hc, go_sem, Nat.reduceEqDiff, reduceIte, Bool.not_true, eq_self]
  · refine fin_eq rfl ?_
    have : agentsOk n.Agents = false := by simpa using hc
    simp [netOk, this]
  · refine call_pure (c554 hz') ?_
    simp only [go_sem, Nat.reduceEqDiff, reduceIte, Bool.not_true, eq_self]
    refine call_pure (c712 (f := .fn 713 [.ept n.enc 0]) (fun me => !meOk n.Agents me) (by simp [AV.tree, AV.trees, GNet.tr]) _ (fun x hx => ?_) hl) ?_
    · obtain ⟨i, hi, _, s, hs, rfl⟩ := (mem_portsTo (Nat.le_refl _)).1 hx
      refine ⟨713, _, rfl, ?_⟩
      have c := c713 hi hs
      rw [meOk, peerOf_at hi hs]
      exact c
    · simp only [any_not, go_sem, Nat.reduceEqDiff, reduceIte, eq_self]
      refine fin_eq rfl ?_
      have : agentsOk n.Agents = true := by simpa using hc
      rw [ports_all]
      simp [netOk, this]
end Go.Ab
namespace Go.Ab
open Go
set_option maxRecDepth 10000
set_option maxHeartbeats 2000000
theorem c860 {n : GNet} (hz : n.sz ≤ 1048576) : Pure Gm 860 [n.enc] (.bool (!netOk n)) := by
  refine Pure.intro [] [] g860 (by kernel_rfl) rfl (by simp [AV.trees, GNet.tr]) rfl ?_
  simp only [F860, vparams, go_sem, reduceIte, eq_self]
  refine lbox_ok rfl ?_; simp only [go_sem, Nat.reduceEqDiff, reduceIte, Bool.not_true, eq_self]
  refine call_pure (c319 hz) ?_
  simp only [go_sem, Nat.reduceEqDiff, reduceIte, eq_self]
  exact fin_eq rfl rfl
theorem c505 {xs : List GNet} (hl : xs.length ≤ 1048576) (hz : ∀ n ∈ xs, n.sz ≤ 1048576) : Pure Gm 505 [.lst 1 (xs.map GNet.enc) false] (.bool (bookOk xs)) := by
  refine Pure.intro [] [] g505 (by kernel_rfl) rfl (by simp [AV.trees, AV.tree, trees_map GNet.isSh.tree]) rfl ?_
  simp only [F505, vparams, go_sem, Nat.reduceEqDiff, reduceIte, eq_self, List.length_map]
  first | (refine grd_split ?_ ?_ <;> intro hc <;> simp only [hc, go_sem, Nat.reduceEqDiff, reduceIte, Bool.not_true, eq_self]) | (refine cnd_split ?_ ?_ <;> intro hc <;> simp only [hc, go_sem, Nat.reduceEqDiff, reduceIte, Bool.not_true, Bool.not_false, Bool.false_eq_true, List.length_cons, List.length_nil, Nat.reduceAdd, List.getElem?_cons_zero, List.getElem?_cons_succ, decide_true, eq_self, List.length_map])
  · refine call_pure (c859 (f := .fn 860 []) (fun n => !netOk n) rfl xs (fun x hx => ⟨860, [], rfl, c860 (hz x hx)⟩) hl) ?_
    simp only [any_not, go_sem, Nat.reduceEqDiff, reduceIte, eq_self]
    refine fin_eq rfl ?_
    simp only [bookOk, AV.bool.injEq]; simp at *; omega
  · refine fin_eq rfl ?_
    simp only [bookOk, AV.bool.injEq]; simp at *; omega
theorem c1114 {o : GOrigin} {a : Int} : Pure Gm 1114 [o.enc, .int .i64 a] (.bool (originOk o a)) := by
  refine Pure.intro [] [] g1114 (by kernel_rfl) rfl (by simp [AV.trees, AV.tree, GOrigin.tr]) rfl ?_
  simp only [F1114, vparams, go_sem, Nat.reduceEqDiff, reduceIte, Nat.reduceAdd, eq_self]
  refine lbox_ok rfl ?_; simp only [go_sem, Nat.reduceEqDiff, reduceIte, Bool.not_true, List.length_cons, List.length_nil, Nat.reduceAdd, eq_self]
  refine call_lend (vs' := [.int .i64 a, .lst 1 ([o.Step].map encI) false]) (Cvs.cons (.refl rfl) (Cvs.cons (Cv.row rfl rfl rfl (by decide)) Cvs.nil)) (c436 (by simp)) rfl ?_
  simp only [go_sem, Nat.reduceEqDiff, reduceIte, eq_self]
  repeat' (first | (first | (refine grd_split ?_ ?_ <;> intro hc <;> simp only [hc, go_sem, Nat.reduceEqDiff, reduceIte, Bool.not_true, Bool.not_false, eq_self]) | (refine cnd_split ?_ ?_ <;> intro hc <;> simp only [hc, go_sem, Nat.reduceEqDiff, reduceIte, Bool.not_true, Bool.not_false, Bool.false_eq_true, List.length_cons, List.length_nil, Nat.reduceAdd, List.getElem?_cons_zero, List.getElem?_cons_succ, decide_true, eq_self, List.length_map])) | refine fin_eq rfl ?_)
  all_goals (simp only [originOk, inI, AV.bool.injEq]; rw [Bool.eq_iff_iff]; simp [inI] at *; try omega)
theorem c1113 {o : GOrigin} {a : Int} : Pure Gm 1113 [o.enc, .ept (.int .i64 a) 0] (.bool (!originOk o a)) := by
  refine Pure.intro [] [] g1113 (by kernel_rfl) rfl (by simp [AV.trees, AV.tree, GOrigin.tr]) rfl ?_
  simp only [F1113, vparams, go_sem, Nat.reduceEqDiff, reduceIte, Nat.reduceAdd, eq_self]
  refine lbox_ok rfl ?_; simp only [go_sem, Nat.reduceEqDiff, reduceIte, Bool.not_true, eq_self]
  refine call_pure c1114 ?_
  simp only [go_sem, Nat.reduceEqDiff, reduceIte, eq_self]
  exact fin_eq rfl rfl
theorem c747 {n : GNet} {os : List GOrigin} {a : Int} (hz : n.sz ≤ 1048576) (hl : os.length ≤ 1048576) : Pure Gm 747 [n.enc, .lst 3 (os.map GOrigin.enc) false, .int .i64 a] (.bool (origsOk n os a)) := by
  refine Pure.intro [5] [] g747 (by kernel_rfl) rfl (by simp [AV.trees, AV.tree, trees_map GOrigin.isSh.tree, GNet.tr]) rfl ?_
  simp only [F747, vparams, go_sem, Nat.reduceEqDiff, reduceIte, Nat.reduceAdd, eq_self]
  refine lbox_ok rfl ?_; simp only [go_sem, Nat.reduceEqDiff, reduceIte, eq_self]
  refine hbox_ok rfl ?_
  simp only [go_sem, Nat.reduceEqDiff, reduceIte, Bool.not_true, List.length_nil, List.getElem?_cons_zero, eq_self, List.nil_append, List.set_cons_zero]
  refine call_pure (c319 hz) ?_
  simp only [go_sem, Nat.reduceEqDiff, reduceIte, eq_self]
  first | (refine grd_split ?_ ?_ <;> intro hc <;> simp only [hc, go_sem, Nat.reduceEqDiff, reduceIte, Bool.not_true, eq_self, List.length_map]) | (refine cnd_split ?_ ?_ <;> intro hc <;> simp only [hc, go_sem, Nat.reduceEqDiff, reduceIte, Bool.not_true, Bool.not_false, Bool.false_eq_true, List.length_cons, List.length_nil, Nat.reduceAdd, List.getElem?_cons_zero, List.getElem?_cons_succ, decide_true, eq_self, List.length_map])
  · first | (refine grd_split ?_ ?_ <;> intro hc <;> simp only [hc, go_sem, Nat.reduceEqDiff, reduceIte, Bool.not_true, eq_self]) | (refine cnd_split ?_ ?_ <;> intro hc <;> simp only [hc, go_sem, Nat.reduceEqDiff, reduceIte, Bool.not_true, Bool.not_false, Bool.false_eq_true, List.length_cons, List.length_nil, Nat.reduceAdd, List.getElem?_cons_zero, List.getElem?_cons_succ, decide_true, eq_self, List.length_map])
    · refine call_pure (c1112 (f := .fn 1113 [.ept (.int .i64 a) 0]) (fun o => !originOk o a) rfl os (fun x hx => ⟨1113, _, rfl, c1113⟩) hl) ?_
      simp only [any_not, go_sem, Nat.reduceEqDiff, reduceIte, eq_self]
      refine fin_eq rfl ?_
      simp_all [origsOk]
    · refine fin_eq rfl ?_
      simp_all [origsOk]
  · refine fin_eq rfl ?_
    simp_all [origsOk]
theorem c428 {b : GBreak} : Pure Gm 428 [b.enc] (.bool (breakOk b)) := by
  refine Pure.intro [] [] g428 (by kernel_rfl) rfl (by simp [AV.trees, GBreak.tr]) rfl ?_
  simp only [F428, vparams, go_sem, reduceIte, eq_self]
  refine lbox_ok rfl ?_; simp only [go_sem, Nat.reduceEqDiff, reduceIte, eq_self]
  repeat' (first | (first | (refine grd_split ?_ ?_ <;> intro hc <;> simp only [hc, go_sem, Nat.reduceEqDiff, reduceIte, Bool.not_true, eq_self]) | (refine cnd_split ?_ ?_ <;> intro hc <;> simp only [hc, go_sem, Nat.reduceEqDiff, reduceIte, Bool.not_true, eq_self])) | (refine call_pure c796 ?_; simp only [go_sem, Nat.reduceEqDiff, reduceIte, eq_self]) | refine fin_eq rfl ?_)
  all_goals (simp only [AV.bool.injEq]; rw [Bool.eq_iff_iff]; simp only [Bool.not_true, decide_eq_true_eq, decide_eq_false_iff_not] at *; simp [breakOk, inI, defOk, *]; try omega)
theorem c749 {b : GBreak} : Pure Gm 749 [b.enc] (.bool (!breakOk b)) := by
  refine Pure.intro [] [] g749 (by kernel_rfl) rfl (by simp [AV.trees, GBreak.tr]) rfl ?_
  simp only [F749, vparams, go_sem, reduceIte, eq_self]
  refine lbox_ok rfl ?_; simp only [go_sem, Nat.reduceEqDiff, reduceIte, Bool.not_true, eq_self]
  refine call_pure c428 ?_
  simp only [go_sem, Nat.reduceEqDiff, reduceIte, eq_self]
  exact fin_eq rfl rfl
end Go.Ab
namespace Go.Ab
open Go
set_option maxRecDepth 10000
set_option maxHeartbeats 2000000
theorem c373 {d : GDebugger} (hz : d.sz ≤ 1048576) : Pure Gm 373 [d.enc] (.bool (dbgOk d)) := by
  refine Pure.intro [] [] g373 (by kernel_rfl) rfl (by simp [AV.trees, GDebugger.tr]) rfl ?_
  simp only [F373, vparams, go_sem, reduceIte, eq_self]
  refine lbox_ok rfl ?_; simp only [go_sem, Nat.reduceEqDiff, reduceIte, Bool.not_true, eq_self]
  unfold GDebugger.sz at hz
  have hzn : d.Net.sz ≤ 1048576 := by omega
  refine call_pure (c505 (by omega) (fun n hn => by have := le_sumN (f := GNet.sz) hn; omega)) ?_
  simp only [go_sem, Nat.reduceEqDiff, reduceIte, eq_self]
  repeat' (first
    | (first | (refine grd_split ?_ ?_ <;> intro hc <;> simp only [hc, go_sem, Nat.reduceEqDiff, reduceIte, Bool.not_true, Bool.not_false, List.length_cons, List.length_nil, Nat.reduceAdd, eq_self]) | (refine cnd_split ?_ ?_ <;> intro hc <;> simp only [hc, go_sem, Nat.reduceEqDiff, reduceIte, eq_self, List.length_map]))
    | (refine call_pure (c406 (by omega)) ?_; simp only [go_sem, Nat.reduceEqDiff, reduceIte, eq_self])
    | (refine call_lend (vs' := [.int .i64 4000, .lst 1 ([d.At].map encI) false]) (Cvs.cons (.refl rfl) (Cvs.cons (Cv.row rfl rfl rfl (by decide)) Cvs.nil)) (c436 (by simp)) rfl ?_; simp only [go_sem, Nat.reduceEqDiff, reduceIte, eq_self])
    | (refine call_pure (c747 hzn (by omega)) ?_; simp only [go_sem, Nat.reduceEqDiff, reduceIte, eq_self])
    | (refine call_pure (c748 (f := .fn 749 []) (fun b => !breakOk b) rfl d.Breaks (fun x _ => ⟨749, [], rfl, c749⟩) (by omega)) ?_; simp only [go_sem, Nat.reduceEqDiff, reduceIte, eq_self])
    | refine fin_eq rfl ?_)
  case refine_1.refine_1.refine_1.refine_1.refine_1.refine_2.refine_1.refine_1 =>
    have h7 : d.Breaks.all breakOk = false := by rw [← any_not, hc]; rfl
    simp [dbgOk, h7]
  all_goals try (simp_all [dbgOk, inI]; done)
  all_goals try (simp_all [dbgOk, inI]; omega)
  have f1 : bookOk d.Book = true := by simp_all
  have f2 : schedOk d.Schedule = true := by simp_all
  have f3 : inI d.Every 1 50 = true := by simp [inI]; simp at *; omega
  have f4 : inI d.At 0 4000 = true := by simp_all
  have f5 : origsOk d.Net d.Origins d.At = true := by simp_all
  have f6 : decide ((8 : Int) < d.Breaks.length) = false := by simp_all
  have f7 : d.Breaks.all breakOk = true := by rw [← any_not, hc]; rfl
  have key : dbgOk d = (inI d.Points.length (d.At.tdiv d.Every + 1) ((4000 : Int).tdiv d.Every + 1) && pointsFrom d.Every d.Points 0) := by simp [dbgOk, f1, f2, f3, f4, f5, f6, f7]
  have e1 := inI_iff.1 f3
  have e2 := inI_iff.1 f4
  have b1 := tdiv_bd e2.1 (show 0 < d.Every by omega)
  have b2 := tdiv_bd (show (0 : Int) ≤ 4000 by omega) (show 0 < d.Every by omega)
  clear f1 f2 f3 f4 f5 f6 f7 hc
  rw [if_neg (show ¬ d.Every = 0 by omega)]
  simp only [go_sem, Nat.reduceEqDiff, reduceIte, eq_self]
  rw [wrap_small (n := d.At.tdiv d.Every) (by omega) (by omega), wrap_small (n := d.At.tdiv d.Every + 1) (by omega) (by omega)]
  have lo (h : decide ((d.Points.length : Int) < d.At.tdiv d.Every + 1) = false) (h2 : decide ((4000 : Int).tdiv d.Every + 1 < (d.Points.length : Int)) = false) : dbgOk d = pointsFrom d.Every d.Points 0 := by
    rw [key]; have : inI d.Points.length (d.At.tdiv d.Every + 1) ((4000 : Int).tdiv d.Every + 1) = true := by simp [inI]; simp at *; omega
    rw [this]; rfl
  first | (refine grd_split ?_ ?_ <;> intro hc <;> simp only [hc, go_sem, Nat.reduceEqDiff, reduceIte, Bool.not_false, eq_self]) | (refine cnd_split ?_ ?_ <;> intro hc <;> simp only [hc, go_sem, Nat.reduceEqDiff, reduceIte, Bool.not_true, Bool.not_false, Bool.false_eq_true, List.length_cons, List.length_nil, Nat.reduceAdd, List.getElem?_cons_zero, List.getElem?_cons_succ, decide_true, eq_self, List.length_map])
  · rw [if_neg (show ¬ d.Every = 0 by omega)]
    simp only [go_sem, Nat.reduceEqDiff, reduceIte, eq_self]
    rw [wrap_small (n := (4000 : Int).tdiv d.Every) (by omega) (by omega), wrap_small (n := (4000 : Int).tdiv d.Every + 1) (by omega) (by omega)]
    have hc1 := hc
    refine cnd_split ?_ ?_ <;> intro hc <;> simp only [hc, go_sem, Nat.reduceEqDiff, reduceIte, eq_self, List.length_map]
    · refine fin_eq rfl ?_
      rw [key]; simp [inI]; simp at *; omega
    · have hX := lo hc1 hc
      refine Sem.loop (fun i : Nat => i ≤ d.Points.length ∧ dbgOk d = pointsFrom d.Every (d.Points.drop i) i) (fun i => (⟨[(72, .lst 3 (d.Points.map GCheckpoint.enc) false), (73, .int .i64 (d.Points.length : Int)), (74, .int .i64 (i : Nat))], [(1, d.enc)], [.row 1 [.int .i64 d.At] true]⟩ : VSt)) (fun i => d.Points.length - i) 0 (by kernel_rfl) ⟨Nat.zero_le _, by rw [hX]; simp⟩ (Can.sub (by simp [go_sem]) (by simp [go_sem])) ?_
      rintro i ⟨hi, hI⟩
      simp only [go_sem, Nat.reduceEqDiff, reduceIte, eq_self]
      refine cnd_split ?_ ?_ <;> intro hc <;> simp only [hc, go_sem, Nat.reduceEqDiff, reduceIte, eq_self]
      · have hlt : i < d.Points.length := by have := of_decide_eq_true hc; omega
        simp only [List.getElem?_map, List.getElem?_eq_getElem hlt, Option.map_some, go_sem, Nat.reduceEqDiff, reduceIte, eq_self]
        refine lst_all (k := 3) (by rfl) (by rfl) (by exact ⟨_, rfl⟩) (by decide) ?_
        simp only [go_sem, Nat.reduceEqDiff, reduceIte, eq_self]
        have hs : (d.Points[i].Net.sz + d.Points[i].Origins.length) ≤ sumN GCheckpoint.sz d.Points := le_sumN (f := GCheckpoint.sz) (List.getElem_mem hlt)
        have m1 : (0 : Int) ≤ (i : Int) * d.Every := Int.mul_nonneg (by omega) (by omega)
        have m2 : (i : Int) * d.Every ≤ 1048576 * 50 := Int.mul_le_mul (by omega) (by omega) (by omega) (by omega)
        rw [wrap_small (n := (i : Int) * d.Every) (by omega) (by omega)]
        refine grd_split ?_ ?_ <;> intro hc <;> simp only [hc, go_sem, Nat.reduceEqDiff, reduceIte, Bool.not_true, Bool.not_false, eq_self]
        · refine call_pure (c747 (by omega) (by omega)) ?_
          simp only [go_sem, Nat.reduceEqDiff, reduceIte, eq_self]
          refine cnd_split ?_ ?_ <;> intro hc <;> simp only [hc, go_sem, Nat.reduceEqDiff, reduceIte, eq_self]
          · refine fin_eq rfl ?_
            rw [hI, drop_at hlt]; simp_all [pointsFrom]
          · simp only [wrap_succ (show i < 4611686018427387904 by omega)]; refine loopQ_nrm (i + 1) ⟨by omega, ?_⟩ (by omega) (Can.sub (by simp [go_sem]) (by simp [go_sem]))
            rw [hI, drop_at hlt]; simp_all [pointsFrom]
        · refine fin_eq rfl ?_
          rw [hI, drop_at hlt]; simp_all [pointsFrom]
      · obtain rfl : i = d.Points.length := by have := of_decide_eq_false hc; omega
        refine fin_eq rfl ?_
        rw [hI]; simp [pointsFrom]
  · refine fin_eq rfl ?_
    rw [key]; simp [inI]; simp at *; omega
end Go.Ab
namespace Go.Ab
open Go
set_option maxRecDepth 10000
set_option maxHeartbeats 2000000
end Go.Ab
namespace Go.Ab
open Go
set_option maxRecDepth 10000
set_option maxHeartbeats 2000000
end Go.Ab
namespace Go.Ab
open Go
set_option maxRecDepth 10000
set_option maxHeartbeats 2000000
end Go.Ab
namespace Go.Ab
open Go
set_option maxRecDepth 10000
set_option maxHeartbeats 2000000
end Go.Ab
namespace Go.Ab
open Go
set_option maxRecDepth 10000
set_option maxHeartbeats 2000000
def zeroD : GDebugger := { Book := [], Schedule := [], Every := 0, At := 0, Net := { Agents := [] }, Origins := [], Breaks := [], Points := [] }
theorem zeroD_fin {h : List AObj} {n : Int} : FinF (some [.agg [.nils, .nils, .int .i64 0, .int .i64 0, .nils, .nils, .nils, .nils], .int .i64 n]) h (.tup [zeroD.enc, .int .i64 n]) := by
  refine ⟨[none, none, none, none, none, none], rfl, ⟨.ph, .ph, .ph, .ph, .ph, .ph, trivial⟩, ?_⟩
  have a : VR2 [none, none, none, none, none, none] (.agg [.nils, .nils, .int .i64 0, .int .i64 0, .nils, .nils, .nils, .nils]) (.agg [.slice 1 0 0 0 false, .slice 1 1 0 0 false, .int .i64 0, .int .i64 0, .slice 5 2 0 0 false, .slice 3 3 0 0 false, .slice 2 4 0 0 false, .slice 3 5 0 0 false]) :=
    .agg rfl (VR2s.cons (.ph rfl) (VR2s.cons (.ph rfl) (VR2s.cons (.tree rfl) (VR2s.cons (.tree rfl) (VR2s.cons (.ph rfl) (VR2s.cons (.ph rfl) (VR2s.cons (.ph rfl) (VR2s.cons (.ph rfl) VR2s.nil)))))))).2
  exact .tup rfl (VR2s.cons a (VR2s.cons (.tree rfl) VR2s.nil)).2
end Go.Ab
namespace Go.Ab
open Go
set_option maxRecDepth 10000
set_option maxHeartbeats 2000000
end Go.Ab
namespace Go.Ab
open Go
set_option maxRecDepth 10000
set_option maxHeartbeats 2000000
theorem layT {e : AV} {k : IntKind} {n : Int} {m : Nat} : lay (.tup [e, .int k n]) m = (.tup [(lay e m).1, .int k n], (lay e m).2) := by simp [lay, lays]
theorem layDp (x : GDebugger) (n : Nat) : (lay x.enc n).1.part 0 (some 8) = some (lay x.enc n).1 := lay_part (GDebugger.plx x) ⟨_, rfl⟩ rfl
theorem layDl (x : GDebugger) (n : Nat) : (lay x.enc n).1.cells.length = 8 := by rw [lay_cellsLen (GDebugger.plx x)]; rfl
theorem layDa (x : GDebugger) (n : Nat) : ∃ cs, (lay x.enc n).1 = .agg cs := ⟨_, congrArg Prod.fst (GDebugger.layE x n)⟩
end Go.Ab
