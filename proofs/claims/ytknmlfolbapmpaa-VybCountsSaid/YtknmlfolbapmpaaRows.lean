/-
  No cell of these rows narrows 'for every input' (looked for: loops, veiled, ifaces, maps, wideKeys, modest, calm, conditions, laid).
  DERIVED. THE GIVEN ROWS OF THIS SEAT. 14 by the template 'for every input the law returns true; each argument reads behind the call as it read before'; 0 by the template 'total and deterministic' (their statements: YtknmlfolbapmpaaTotals.lean).
  GIVEN WITH THE SEED: the statements are not yours to turn. If you find one false, say at which input.
  Laid BY PROGRAM, IN A SANDBOX (cutbox-rows.mjs): the forced cells as the released guide's own fill.sh prints them over the translation 12af491efa0bfd2a… (all of the seat's roots in one cut). By AI agents, Wed Nov 11 2026. No macro, syntax, notation, axiom, sorry.
-/
import Derived.Test.YtknmlfolbapmpaaChecked
import GoSem.Claim
import GoSem.ClaimJoined
import GoSem.ClaimMapViews
import Derived.JoinedTies
import Derived.KernelRfl
namespace Go.Proofs.Ytknmlfolbapmpaa
/- THE CELL 'sum', in the pinned program and in every row, IS THE sha256 OF THE DUMP (.gsa) THAT YtknmlfolbapmpaaProg.lean LOADS. Nothing in Lean hashes anything: it is a label: what it is worth is what the hold of that sum in a sandbox is worth. -/
noncomputable def Try.pinned : Pinned := { name := "ytknmlfolbapmpaa", sum := "12af491efa0bfd2a0f36f8b79dd1863a8fecb40d2657bcc5e770a09a388c8cd3", checked := Try.checked }
namespace Rows
def none {H : Type} : Left H := { results := [], args := [] }

/-- 'hawthornlaw13.DijkstraRuns': WHATEVER THE INPUT: true; the input reads as it did. -/
def dijkstraRunsSpec : ChangeSpec := { name := "dijkstraRuns", fn := fun _ => fun
  | [d1, d2, d3] => { results := [.lit (.bool true)], args := [d1, d2, d3] }
  | _ => none }
def dijkstraRunsRow : OpenClaim := { program := "ytknmlfolbapmpaa", sum := "12af491efa0bfd2a0f36f8b79dd1863a8fecb40d2657bcc5e770a09a388c8cd3", func := "hawthorn/hawthornlaw13.DijkstraRuns", spec := "dijkstraRuns", inPlace := ["sync/atomic.LoadUint32", "(*internal/sync.Mutex).Lock", "internal/race.Disable", "sync/atomic.CompareAndSwapInt32", "internal/race.Enable", "internal/race.Acquire", "(*internal/sync.Mutex).lockSlow", "internal/sync.runtime_canSpin", "internal/sync.runtime_doSpin", "internal/sync.throw", "internal/sync.runtime_nanotime", "internal/sync.runtime_SemacquireMutex", "sync/atomic.AddInt32", "(*internal/sync.Mutex).Unlock", "internal/race.ReleaseMerge", "(*internal/sync.Mutex).unlockSlow", "internal/sync.fatal", "internal/sync.runtime_Semrelease", "sync/atomic.StoreUint32", "sync/atomic.LoadUint64", "sync/atomic.OrUint64"], unfollowed := true, recurses := true, apart := false }
def DijkstraRunsSaid : Prop := dijkstraRunsRow.holds Try.pinned (OpenSpec.ofChange dijkstraRunsSpec)

/-- ITS FALSE NEIGHBOUR: 'it returns false'. Refute it at one input. -/
def dijkstraRunsWrong : ChangeSpec := { name := "dijkstraRuns", fn := fun _ => fun
  | [d1, d2, d3] => { results := [.lit (.bool false)], args := [d1, d2, d3] }
  | _ => none }
def DijkstraRunsWrongFalsely : Prop := dijkstraRunsRow.holds Try.pinned (OpenSpec.ofChange dijkstraRunsWrong)

/-- 'hawthornlaw14.YuasaRuns': WHATEVER THE INPUT: true; the input reads as it did. -/
def yuasaRunsSpec : ChangeSpec := { name := "yuasaRuns", fn := fun _ => fun
  | [d1, d2] => { results := [.lit (.bool true)], args := [d1, d2] }
  | _ => none }
def yuasaRunsRow : OpenClaim := { program := "ytknmlfolbapmpaa", sum := "12af491efa0bfd2a0f36f8b79dd1863a8fecb40d2657bcc5e770a09a388c8cd3", func := "hawthorn/hawthornlaw14.YuasaRuns", spec := "yuasaRuns", inPlace := ["sync/atomic.LoadUint32", "(*internal/sync.Mutex).Lock", "internal/race.Disable", "sync/atomic.CompareAndSwapInt32", "internal/race.Enable", "internal/race.Acquire", "(*internal/sync.Mutex).lockSlow", "internal/sync.runtime_canSpin", "internal/sync.runtime_doSpin", "internal/sync.throw", "internal/sync.runtime_nanotime", "internal/sync.runtime_SemacquireMutex", "sync/atomic.AddInt32", "(*internal/sync.Mutex).Unlock", "internal/race.ReleaseMerge", "(*internal/sync.Mutex).unlockSlow", "internal/sync.fatal", "internal/sync.runtime_Semrelease", "sync/atomic.StoreUint32", "sync/atomic.LoadUint64", "sync/atomic.OrUint64"], unfollowed := true, recurses := true, apart := false }
def YuasaRunsSaid : Prop := yuasaRunsRow.holds Try.pinned (OpenSpec.ofChange yuasaRunsSpec)

/-- ITS FALSE NEIGHBOUR: 'it returns false'. Refute it at one input. -/
def yuasaRunsWrong : ChangeSpec := { name := "yuasaRuns", fn := fun _ => fun
  | [d1, d2] => { results := [.lit (.bool false)], args := [d1, d2] }
  | _ => none }
def YuasaRunsWrongFalsely : Prop := yuasaRunsRow.holds Try.pinned (OpenSpec.ofChange yuasaRunsWrong)

/-- 'hawthornlaw18.SweepPool': WHATEVER THE INPUT: true; the input reads as it did. -/
def sweepPoolSpec : ChangeSpec := { name := "sweepPool", fn := fun _ => fun
  | [d1, d2] => { results := [.lit (.bool true)], args := [d1, d2] }
  | _ => none }
def sweepPoolRow : OpenClaim := { program := "ytknmlfolbapmpaa", sum := "12af491efa0bfd2a0f36f8b79dd1863a8fecb40d2657bcc5e770a09a388c8cd3", func := "hawthorn/hawthornlaw18.SweepPool", spec := "sweepPool", inPlace := ["sync/atomic.LoadUint32", "(*internal/sync.Mutex).Lock", "internal/race.Disable", "sync/atomic.CompareAndSwapInt32", "internal/race.Enable", "internal/race.Acquire", "(*internal/sync.Mutex).lockSlow", "internal/sync.runtime_canSpin", "internal/sync.runtime_doSpin", "internal/sync.throw", "internal/sync.runtime_nanotime", "internal/sync.runtime_SemacquireMutex", "sync/atomic.AddInt32", "(*internal/sync.Mutex).Unlock", "internal/race.ReleaseMerge", "(*internal/sync.Mutex).unlockSlow", "internal/sync.fatal", "internal/sync.runtime_Semrelease", "sync/atomic.StoreUint32", "sync/atomic.LoadUint64", "sync/atomic.OrUint64", "sync/atomic.AndUint64"], unfollowed := true, recurses := true, apart := false }
def SweepPoolSaid : Prop := sweepPoolRow.holds Try.pinned (OpenSpec.ofChange sweepPoolSpec)

/-- ITS FALSE NEIGHBOUR: 'it returns false'. Refute it at one input. -/
def sweepPoolWrong : ChangeSpec := { name := "sweepPool", fn := fun _ => fun
  | [d1, d2] => { results := [.lit (.bool false)], args := [d1, d2] }
  | _ => none }
def SweepPoolWrongFalsely : Prop := sweepPoolRow.holds Try.pinned (OpenSpec.ofChange sweepPoolWrong)

/-- 'hawthornlaw18.SweepBegins': WHATEVER THE INPUT: true; the input reads as it did. -/
def sweepBeginsSpec : ChangeSpec := { name := "sweepBegins", fn := fun _ => fun
  | [d1, d2, d3] => { results := [.lit (.bool true)], args := [d1, d2, d3] }
  | _ => none }
def sweepBeginsRow : OpenClaim := { program := "ytknmlfolbapmpaa", sum := "12af491efa0bfd2a0f36f8b79dd1863a8fecb40d2657bcc5e770a09a388c8cd3", func := "hawthorn/hawthornlaw18.SweepBegins", spec := "sweepBegins", inPlace := ["sync/atomic.LoadUint32", "(*internal/sync.Mutex).Lock", "internal/race.Disable", "sync/atomic.CompareAndSwapInt32", "internal/race.Enable", "internal/race.Acquire", "(*internal/sync.Mutex).lockSlow", "internal/sync.runtime_canSpin", "internal/sync.runtime_doSpin", "internal/sync.throw", "internal/sync.runtime_nanotime", "internal/sync.runtime_SemacquireMutex", "sync/atomic.AddInt32", "(*internal/sync.Mutex).Unlock", "internal/race.ReleaseMerge", "(*internal/sync.Mutex).unlockSlow", "internal/sync.fatal", "internal/sync.runtime_Semrelease", "sync/atomic.StoreUint32", "sync/atomic.LoadUint64", "sync/atomic.OrUint64", "sync/atomic.AndUint64"], unfollowed := true, recurses := true, apart := false }
def SweepBeginsSaid : Prop := sweepBeginsRow.holds Try.pinned (OpenSpec.ofChange sweepBeginsSpec)

/-- ITS FALSE NEIGHBOUR: 'it returns false'. Refute it at one input. -/
def sweepBeginsWrong : ChangeSpec := { name := "sweepBegins", fn := fun _ => fun
  | [d1, d2, d3] => { results := [.lit (.bool false)], args := [d1, d2, d3] }
  | _ => none }
def SweepBeginsWrongFalsely : Prop := sweepBeginsRow.holds Try.pinned (OpenSpec.ofChange sweepBeginsWrong)

/-- 'hawthornlaw15.VybEnough': WHATEVER THE INPUT: true; the input reads as it did. -/
def vybEnoughSpec : ChangeSpec := { name := "vybEnough", fn := fun _ => fun
  | [d1, d2, d3] => { results := [.lit (.bool true)], args := [d1, d2, d3] }
  | _ => none }
def vybEnoughRow : OpenClaim := { program := "ytknmlfolbapmpaa", sum := "12af491efa0bfd2a0f36f8b79dd1863a8fecb40d2657bcc5e770a09a388c8cd3", func := "hawthorn/hawthornlaw15.VybEnough", spec := "vybEnough", inPlace := ["sync/atomic.LoadUint32", "(*internal/sync.Mutex).Lock", "internal/race.Disable", "sync/atomic.CompareAndSwapInt32", "internal/race.Enable", "internal/race.Acquire", "(*internal/sync.Mutex).lockSlow", "internal/sync.runtime_canSpin", "internal/sync.runtime_doSpin", "internal/sync.throw", "internal/sync.runtime_nanotime", "internal/sync.runtime_SemacquireMutex", "sync/atomic.AddInt32", "(*internal/sync.Mutex).Unlock", "internal/race.ReleaseMerge", "(*internal/sync.Mutex).unlockSlow", "internal/sync.fatal", "internal/sync.runtime_Semrelease", "sync/atomic.StoreUint32", "sync/atomic.LoadUint64", "sync/atomic.OrUint64"], unfollowed := true, recurses := true, apart := false }
def VybEnoughSaid : Prop := vybEnoughRow.holds Try.pinned (OpenSpec.ofChange vybEnoughSpec)

/-- ITS FALSE NEIGHBOUR: 'it returns false'. Refute it at one input. -/
def vybEnoughWrong : ChangeSpec := { name := "vybEnough", fn := fun _ => fun
  | [d1, d2, d3] => { results := [.lit (.bool false)], args := [d1, d2, d3] }
  | _ => none }
def VybEnoughWrongFalsely : Prop := vybEnoughRow.holds Try.pinned (OpenSpec.ofChange vybEnoughWrong)

/-- 'hawthornlaw15.VybSaturates': WHATEVER THE INPUT: true; the input reads as it did. -/
def vybSaturatesSpec : ChangeSpec := { name := "vybSaturates", fn := fun _ => fun
  | [d1, d2, d3] => { results := [.lit (.bool true)], args := [d1, d2, d3] }
  | _ => none }
def vybSaturatesRow : OpenClaim := { program := "ytknmlfolbapmpaa", sum := "12af491efa0bfd2a0f36f8b79dd1863a8fecb40d2657bcc5e770a09a388c8cd3", func := "hawthorn/hawthornlaw15.VybSaturates", spec := "vybSaturates", inPlace := ["sync/atomic.LoadUint32", "(*internal/sync.Mutex).Lock", "internal/race.Disable", "sync/atomic.CompareAndSwapInt32", "internal/race.Enable", "internal/race.Acquire", "(*internal/sync.Mutex).lockSlow", "internal/sync.runtime_canSpin", "internal/sync.runtime_doSpin", "internal/sync.throw", "internal/sync.runtime_nanotime", "internal/sync.runtime_SemacquireMutex", "sync/atomic.AddInt32", "(*internal/sync.Mutex).Unlock", "internal/race.ReleaseMerge", "(*internal/sync.Mutex).unlockSlow", "internal/sync.fatal", "internal/sync.runtime_Semrelease", "sync/atomic.StoreUint32", "sync/atomic.LoadUint64", "sync/atomic.OrUint64"], unfollowed := true, recurses := true, apart := false }
def VybSaturatesSaid : Prop := vybSaturatesRow.holds Try.pinned (OpenSpec.ofChange vybSaturatesSpec)

/-- ITS FALSE NEIGHBOUR: 'it returns false'. Refute it at one input. -/
def vybSaturatesWrong : ChangeSpec := { name := "vybSaturates", fn := fun _ => fun
  | [d1, d2, d3] => { results := [.lit (.bool false)], args := [d1, d2, d3] }
  | _ => none }
def VybSaturatesWrongFalsely : Prop := vybSaturatesRow.holds Try.pinned (OpenSpec.ofChange vybSaturatesWrong)

/-- 'hawthornlaw15.VybRemarks': WHATEVER THE INPUT: true; the input reads as it did. -/
def vybRemarksSpec : ChangeSpec := { name := "vybRemarks", fn := fun _ => fun
  | [d1, d2, d3] => { results := [.lit (.bool true)], args := [d1, d2, d3] }
  | _ => none }
def vybRemarksRow : OpenClaim := { program := "ytknmlfolbapmpaa", sum := "12af491efa0bfd2a0f36f8b79dd1863a8fecb40d2657bcc5e770a09a388c8cd3", func := "hawthorn/hawthornlaw15.VybRemarks", spec := "vybRemarks", inPlace := ["sync/atomic.LoadUint32", "(*internal/sync.Mutex).Lock", "internal/race.Disable", "sync/atomic.CompareAndSwapInt32", "internal/race.Enable", "internal/race.Acquire", "(*internal/sync.Mutex).lockSlow", "internal/sync.runtime_canSpin", "internal/sync.runtime_doSpin", "internal/sync.throw", "internal/sync.runtime_nanotime", "internal/sync.runtime_SemacquireMutex", "sync/atomic.AddInt32", "(*internal/sync.Mutex).Unlock", "internal/race.ReleaseMerge", "(*internal/sync.Mutex).unlockSlow", "internal/sync.fatal", "internal/sync.runtime_Semrelease", "sync/atomic.StoreUint32", "sync/atomic.LoadUint64", "sync/atomic.OrUint64"], unfollowed := true, recurses := true, apart := false }
def VybRemarksSaid : Prop := vybRemarksRow.holds Try.pinned (OpenSpec.ofChange vybRemarksSpec)

/-- ITS FALSE NEIGHBOUR: 'it returns false'. Refute it at one input. -/
def vybRemarksWrong : ChangeSpec := { name := "vybRemarks", fn := fun _ => fun
  | [d1, d2, d3] => { results := [.lit (.bool false)], args := [d1, d2, d3] }
  | _ => none }
def VybRemarksWrongFalsely : Prop := vybRemarksRow.holds Try.pinned (OpenSpec.ofChange vybRemarksWrong)

/-- 'hawthornlaw13.DijkstraKeeps': WHATEVER THE INPUT: true; the input reads as it did. -/
def dijkstraKeepsSpec : ChangeSpec := { name := "dijkstraKeeps", fn := fun _ => fun
  | [d1, d2] => { results := [.lit (.bool true)], args := [d1, d2] }
  | _ => none }
def dijkstraKeepsRow : OpenClaim := { program := "ytknmlfolbapmpaa", sum := "12af491efa0bfd2a0f36f8b79dd1863a8fecb40d2657bcc5e770a09a388c8cd3", func := "hawthorn/hawthornlaw13.DijkstraKeeps", spec := "dijkstraKeeps", inPlace := ["sync/atomic.LoadUint32", "(*internal/sync.Mutex).Lock", "internal/race.Disable", "sync/atomic.CompareAndSwapInt32", "internal/race.Enable", "internal/race.Acquire", "(*internal/sync.Mutex).lockSlow", "internal/sync.runtime_canSpin", "internal/sync.runtime_doSpin", "internal/sync.throw", "internal/sync.runtime_nanotime", "internal/sync.runtime_SemacquireMutex", "sync/atomic.AddInt32", "(*internal/sync.Mutex).Unlock", "internal/race.ReleaseMerge", "(*internal/sync.Mutex).unlockSlow", "internal/sync.fatal", "internal/sync.runtime_Semrelease", "sync/atomic.StoreUint32", "sync/atomic.LoadUint64", "sync/atomic.OrUint64"], unfollowed := true, recurses := true, apart := false }
def DijkstraKeepsSaid : Prop := dijkstraKeepsRow.holds Try.pinned (OpenSpec.ofChange dijkstraKeepsSpec)

/-- ITS FALSE NEIGHBOUR: 'it returns false'. Refute it at one input. -/
def dijkstraKeepsWrong : ChangeSpec := { name := "dijkstraKeeps", fn := fun _ => fun
  | [d1, d2] => { results := [.lit (.bool false)], args := [d1, d2] }
  | _ => none }
def DijkstraKeepsWrongFalsely : Prop := dijkstraKeepsRow.holds Try.pinned (OpenSpec.ofChange dijkstraKeepsWrong)

/-- 'hawthornlaw13.DijkstraNone': WHATEVER THE INPUT: true; the input reads as it did. -/
def dijkstraNoneSpec : ChangeSpec := { name := "dijkstraNone", fn := fun _ => fun
  | [d1, d2] => { results := [.lit (.bool true)], args := [d1, d2] }
  | _ => none }
def dijkstraNoneRow : OpenClaim := { program := "ytknmlfolbapmpaa", sum := "12af491efa0bfd2a0f36f8b79dd1863a8fecb40d2657bcc5e770a09a388c8cd3", func := "hawthorn/hawthornlaw13.DijkstraNone", spec := "dijkstraNone", inPlace := ["sync/atomic.LoadUint32", "(*internal/sync.Mutex).Lock", "internal/race.Disable", "sync/atomic.CompareAndSwapInt32", "internal/race.Enable", "internal/race.Acquire", "(*internal/sync.Mutex).lockSlow", "internal/sync.runtime_canSpin", "internal/sync.runtime_doSpin", "internal/sync.throw", "internal/sync.runtime_nanotime", "internal/sync.runtime_SemacquireMutex", "sync/atomic.AddInt32", "(*internal/sync.Mutex).Unlock", "internal/race.ReleaseMerge", "(*internal/sync.Mutex).unlockSlow", "internal/sync.fatal", "internal/sync.runtime_Semrelease", "sync/atomic.StoreUint32", "sync/atomic.LoadUint64", "sync/atomic.OrUint64"], unfollowed := true, recurses := true, apart := false }
def DijkstraNoneSaid : Prop := dijkstraNoneRow.holds Try.pinned (OpenSpec.ofChange dijkstraNoneSpec)

/-- ITS FALSE NEIGHBOUR: 'it returns false'. Refute it at one input. -/
def dijkstraNoneWrong : ChangeSpec := { name := "dijkstraNone", fn := fun _ => fun
  | [d1, d2] => { results := [.lit (.bool false)], args := [d1, d2] }
  | _ => none }
def DijkstraNoneWrongFalsely : Prop := dijkstraNoneRow.holds Try.pinned (OpenSpec.ofChange dijkstraNoneWrong)

/-- 'hawthornlaw18.SweepMeets': WHATEVER THE INPUT: true; the input reads as it did. -/
def sweepMeetsSpec : ChangeSpec := { name := "sweepMeets", fn := fun _ => fun
  | [d1, d2, d3] => { results := [.lit (.bool true)], args := [d1, d2, d3] }
  | _ => none }
def sweepMeetsRow : OpenClaim := { program := "ytknmlfolbapmpaa", sum := "12af491efa0bfd2a0f36f8b79dd1863a8fecb40d2657bcc5e770a09a388c8cd3", func := "hawthorn/hawthornlaw18.SweepMeets", spec := "sweepMeets", inPlace := ["sync/atomic.LoadUint32", "(*internal/sync.Mutex).Lock", "internal/race.Disable", "sync/atomic.CompareAndSwapInt32", "internal/race.Enable", "internal/race.Acquire", "(*internal/sync.Mutex).lockSlow", "internal/sync.runtime_canSpin", "internal/sync.runtime_doSpin", "internal/sync.throw", "internal/sync.runtime_nanotime", "internal/sync.runtime_SemacquireMutex", "sync/atomic.AddInt32", "(*internal/sync.Mutex).Unlock", "internal/race.ReleaseMerge", "(*internal/sync.Mutex).unlockSlow", "internal/sync.fatal", "internal/sync.runtime_Semrelease", "sync/atomic.StoreUint32", "sync/atomic.LoadUint64", "sync/atomic.OrUint64", "sync/atomic.AndUint64"], unfollowed := true, recurses := true, apart := false }
def SweepMeetsSaid : Prop := sweepMeetsRow.holds Try.pinned (OpenSpec.ofChange sweepMeetsSpec)

/-- ITS FALSE NEIGHBOUR: 'it returns false'. Refute it at one input. -/
def sweepMeetsWrong : ChangeSpec := { name := "sweepMeets", fn := fun _ => fun
  | [d1, d2, d3] => { results := [.lit (.bool false)], args := [d1, d2, d3] }
  | _ => none }
def SweepMeetsWrongFalsely : Prop := sweepMeetsRow.holds Try.pinned (OpenSpec.ofChange sweepMeetsWrong)

/-- 'hawthornlaw14.YuasaSnapshot': WHATEVER THE INPUT: true; the input reads as it did. -/
def yuasaSnapshotSpec : ChangeSpec := { name := "yuasaSnapshot", fn := fun _ => fun
  | [d1, d2, d3] => { results := [.lit (.bool true)], args := [d1, d2, d3] }
  | _ => none }
def yuasaSnapshotRow : OpenClaim := { program := "ytknmlfolbapmpaa", sum := "12af491efa0bfd2a0f36f8b79dd1863a8fecb40d2657bcc5e770a09a388c8cd3", func := "hawthorn/hawthornlaw14.YuasaSnapshot", spec := "yuasaSnapshot", inPlace := ["sync/atomic.LoadUint32", "(*internal/sync.Mutex).Lock", "internal/race.Disable", "sync/atomic.CompareAndSwapInt32", "internal/race.Enable", "internal/race.Acquire", "(*internal/sync.Mutex).lockSlow", "internal/sync.runtime_canSpin", "internal/sync.runtime_doSpin", "internal/sync.throw", "internal/sync.runtime_nanotime", "internal/sync.runtime_SemacquireMutex", "sync/atomic.AddInt32", "(*internal/sync.Mutex).Unlock", "internal/race.ReleaseMerge", "(*internal/sync.Mutex).unlockSlow", "internal/sync.fatal", "internal/sync.runtime_Semrelease", "sync/atomic.StoreUint32", "sync/atomic.LoadUint64", "sync/atomic.OrUint64"], unfollowed := true, recurses := true, apart := false }
def YuasaSnapshotSaid : Prop := yuasaSnapshotRow.holds Try.pinned (OpenSpec.ofChange yuasaSnapshotSpec)

/-- ITS FALSE NEIGHBOUR: 'it returns false'. Refute it at one input. -/
def yuasaSnapshotWrong : ChangeSpec := { name := "yuasaSnapshot", fn := fun _ => fun
  | [d1, d2, d3] => { results := [.lit (.bool false)], args := [d1, d2, d3] }
  | _ => none }
def YuasaSnapshotWrongFalsely : Prop := yuasaSnapshotRow.holds Try.pinned (OpenSpec.ofChange yuasaSnapshotWrong)

/-- 'hawthornlaw11.MarkAgain': WHATEVER THE INPUT: true; the input reads as it did. -/
def markAgainSpec : ChangeSpec := { name := "markAgain", fn := fun _ => fun
  | [d1, d2, d3] => { results := [.lit (.bool true)], args := [d1, d2, d3] }
  | _ => none }
def markAgainRow : OpenClaim := { program := "ytknmlfolbapmpaa", sum := "12af491efa0bfd2a0f36f8b79dd1863a8fecb40d2657bcc5e770a09a388c8cd3", func := "hawthorn/hawthornlaw11.MarkAgain", spec := "markAgain", inPlace := ["sync/atomic.LoadUint32", "(*internal/sync.Mutex).Lock", "internal/race.Disable", "sync/atomic.CompareAndSwapInt32", "internal/race.Enable", "internal/race.Acquire", "(*internal/sync.Mutex).lockSlow", "internal/sync.runtime_canSpin", "internal/sync.runtime_doSpin", "internal/sync.throw", "internal/sync.runtime_nanotime", "internal/sync.runtime_SemacquireMutex", "sync/atomic.AddInt32", "(*internal/sync.Mutex).Unlock", "internal/race.ReleaseMerge", "(*internal/sync.Mutex).unlockSlow", "internal/sync.fatal", "internal/sync.runtime_Semrelease", "sync/atomic.StoreUint32", "sync/atomic.LoadUint64", "sync/atomic.OrUint64", "sync/atomic.AndUint64"], unfollowed := true, recurses := true, apart := false }
def MarkAgainSaid : Prop := markAgainRow.holds Try.pinned (OpenSpec.ofChange markAgainSpec)

/-- ITS FALSE NEIGHBOUR: 'it returns false'. Refute it at one input. -/
def markAgainWrong : ChangeSpec := { name := "markAgain", fn := fun _ => fun
  | [d1, d2, d3] => { results := [.lit (.bool false)], args := [d1, d2, d3] }
  | _ => none }
def MarkAgainWrongFalsely : Prop := markAgainRow.holds Try.pinned (OpenSpec.ofChange markAgainWrong)

/-- 'hawthornlaw15.VybWhite': WHATEVER THE INPUT: true; the input reads as it did. -/
def vybWhiteSpec : ChangeSpec := { name := "vybWhite", fn := fun _ => fun
  | [d1, d2] => { results := [.lit (.bool true)], args := [d1, d2] }
  | _ => none }
def vybWhiteRow : OpenClaim := { program := "ytknmlfolbapmpaa", sum := "12af491efa0bfd2a0f36f8b79dd1863a8fecb40d2657bcc5e770a09a388c8cd3", func := "hawthorn/hawthornlaw15.VybWhite", spec := "vybWhite", inPlace := ["sync/atomic.LoadUint32", "(*internal/sync.Mutex).Lock", "internal/race.Disable", "sync/atomic.CompareAndSwapInt32", "internal/race.Enable", "internal/race.Acquire", "(*internal/sync.Mutex).lockSlow", "internal/sync.runtime_canSpin", "internal/sync.runtime_doSpin", "internal/sync.throw", "internal/sync.runtime_nanotime", "internal/sync.runtime_SemacquireMutex", "sync/atomic.AddInt32", "(*internal/sync.Mutex).Unlock", "internal/race.ReleaseMerge", "(*internal/sync.Mutex).unlockSlow", "internal/sync.fatal", "internal/sync.runtime_Semrelease", "sync/atomic.StoreUint32", "sync/atomic.LoadUint64", "sync/atomic.OrUint64"], unfollowed := true, recurses := true, apart := false }
def VybWhiteSaid : Prop := vybWhiteRow.holds Try.pinned (OpenSpec.ofChange vybWhiteSpec)

/-- ITS FALSE NEIGHBOUR: 'it returns false'. Refute it at one input. -/
def vybWhiteWrong : ChangeSpec := { name := "vybWhite", fn := fun _ => fun
  | [d1, d2] => { results := [.lit (.bool false)], args := [d1, d2] }
  | _ => none }
def VybWhiteWrongFalsely : Prop := vybWhiteRow.holds Try.pinned (OpenSpec.ofChange vybWhiteWrong)

/-- 'hawthornlaw15.VybCounts': WHATEVER THE INPUT: true; the input reads as it did. -/
def vybCountsSpec : ChangeSpec := { name := "vybCounts", fn := fun _ => fun
  | [d1, d2, d3] => { results := [.lit (.bool true)], args := [d1, d2, d3] }
  | _ => none }
def vybCountsRow : OpenClaim := { program := "ytknmlfolbapmpaa", sum := "12af491efa0bfd2a0f36f8b79dd1863a8fecb40d2657bcc5e770a09a388c8cd3", func := "hawthorn/hawthornlaw15.VybCounts", spec := "vybCounts", inPlace := ["sync/atomic.LoadUint32", "(*internal/sync.Mutex).Lock", "internal/race.Disable", "sync/atomic.CompareAndSwapInt32", "internal/race.Enable", "internal/race.Acquire", "(*internal/sync.Mutex).lockSlow", "internal/sync.runtime_canSpin", "internal/sync.runtime_doSpin", "internal/sync.throw", "internal/sync.runtime_nanotime", "internal/sync.runtime_SemacquireMutex", "sync/atomic.AddInt32", "(*internal/sync.Mutex).Unlock", "internal/race.ReleaseMerge", "(*internal/sync.Mutex).unlockSlow", "internal/sync.fatal", "internal/sync.runtime_Semrelease", "sync/atomic.StoreUint32", "sync/atomic.LoadUint64", "sync/atomic.OrUint64"], unfollowed := true, recurses := true, apart := false }
def VybCountsSaid : Prop := vybCountsRow.holds Try.pinned (OpenSpec.ofChange vybCountsSpec)

/-- ITS FALSE NEIGHBOUR: 'it returns false'. Refute it at one input. -/
def vybCountsWrong : ChangeSpec := { name := "vybCounts", fn := fun _ => fun
  | [d1, d2, d3] => { results := [.lit (.bool false)], args := [d1, d2, d3] }
  | _ => none }
def VybCountsWrongFalsely : Prop := vybCountsRow.holds Try.pinned (OpenSpec.ofChange vybCountsWrong)

/- THE SECOND FORM. 'bulk': how many values and letters a reading holds, each counted each time it is reached (what is shared counts as often as it is met; a slice's spare places count too). A statement '..UptoSaid' is the law's where the arguments, and the package variables that the reading takes, are together of bulk at most 1048576: NARROWER than '..Said'. Prove '..Said' where nothing that the law and all that it calls make is longer than what came in: it says more and counts as full. Else prove '..UptoSaid'. A law counts once. -/
mutual
def uptoBulk {H : Type} : DataW H → Nat
  | .lit (.string bytes) => bytes.length + 1
  | .lit _ => 1
  | .nil => 1
  | .ptr d => uptoBulk d + 1
  | .slice elems spare => uptoBulkAll elems + uptoBulkAll spare + 1
  | .agg parts => uptoBulkAll parts + 1
  | .iface _ d => uptoBulk d + 1
  | .map entries => uptoBulkEntries entries + 1
  | .held _ => 1
def uptoBulkAll {H : Type} : List (DataW H) → Nat
  | [] => 0
  | d :: r => uptoBulk d + uptoBulkAll r
def uptoBulkEntries {H : Type} : List (Lit × DataW H) → Nat
  | [] => 0
  | x :: r => uptoBulkEntry x + uptoBulkEntries r
def uptoBulkEntry {H : Type} : Lit × DataW H → Nat
  | (.string bytes, d) => bytes.length + uptoBulk d + 1
  | (_, d) => uptoBulk d + 1
 end
def uptoSmall : (H : Type) → List (DataW H) → Bool := fun _ ds => decide (uptoBulkAll ds ≤ 1048576)
def OpenSpec.upto (s : _root_.Go.ChangeSpec) : _root_.Go.OpenSpec := { _root_.Go.OpenSpec.ofChange s with cond := some uptoSmall }

/-- 'hawthornlaw13.DijkstraRuns', WHERE WHAT IT READS IS OF BULK AT MOST 1048576: true; the input reads as it did. -/
def dijkstraRunsUptoRow : OpenClaim := { program := "ytknmlfolbapmpaa", sum := "12af491efa0bfd2a0f36f8b79dd1863a8fecb40d2657bcc5e770a09a388c8cd3", func := "hawthorn/hawthornlaw13.DijkstraRuns", spec := "dijkstraRuns", inPlace := ["sync/atomic.LoadUint32", "(*internal/sync.Mutex).Lock", "internal/race.Disable", "sync/atomic.CompareAndSwapInt32", "internal/race.Enable", "internal/race.Acquire", "(*internal/sync.Mutex).lockSlow", "internal/sync.runtime_canSpin", "internal/sync.runtime_doSpin", "internal/sync.throw", "internal/sync.runtime_nanotime", "internal/sync.runtime_SemacquireMutex", "sync/atomic.AddInt32", "(*internal/sync.Mutex).Unlock", "internal/race.ReleaseMerge", "(*internal/sync.Mutex).unlockSlow", "internal/sync.fatal", "internal/sync.runtime_Semrelease", "sync/atomic.StoreUint32", "sync/atomic.LoadUint64", "sync/atomic.OrUint64"], unfollowed := true, recurses := true, apart := false, narrowed := true }
def DijkstraRunsUptoSaid : Prop := dijkstraRunsUptoRow.holds Try.pinned (OpenSpec.upto dijkstraRunsSpec)

/-- 'hawthornlaw14.YuasaRuns', WHERE WHAT IT READS IS OF BULK AT MOST 1048576: true; the input reads as it did. -/
def yuasaRunsUptoRow : OpenClaim := { program := "ytknmlfolbapmpaa", sum := "12af491efa0bfd2a0f36f8b79dd1863a8fecb40d2657bcc5e770a09a388c8cd3", func := "hawthorn/hawthornlaw14.YuasaRuns", spec := "yuasaRuns", inPlace := ["sync/atomic.LoadUint32", "(*internal/sync.Mutex).Lock", "internal/race.Disable", "sync/atomic.CompareAndSwapInt32", "internal/race.Enable", "internal/race.Acquire", "(*internal/sync.Mutex).lockSlow", "internal/sync.runtime_canSpin", "internal/sync.runtime_doSpin", "internal/sync.throw", "internal/sync.runtime_nanotime", "internal/sync.runtime_SemacquireMutex", "sync/atomic.AddInt32", "(*internal/sync.Mutex).Unlock", "internal/race.ReleaseMerge", "(*internal/sync.Mutex).unlockSlow", "internal/sync.fatal", "internal/sync.runtime_Semrelease", "sync/atomic.StoreUint32", "sync/atomic.LoadUint64", "sync/atomic.OrUint64"], unfollowed := true, recurses := true, apart := false, narrowed := true }
def YuasaRunsUptoSaid : Prop := yuasaRunsUptoRow.holds Try.pinned (OpenSpec.upto yuasaRunsSpec)

/-- 'hawthornlaw18.SweepPool', WHERE WHAT IT READS IS OF BULK AT MOST 1048576: true; the input reads as it did. -/
def sweepPoolUptoRow : OpenClaim := { program := "ytknmlfolbapmpaa", sum := "12af491efa0bfd2a0f36f8b79dd1863a8fecb40d2657bcc5e770a09a388c8cd3", func := "hawthorn/hawthornlaw18.SweepPool", spec := "sweepPool", inPlace := ["sync/atomic.LoadUint32", "(*internal/sync.Mutex).Lock", "internal/race.Disable", "sync/atomic.CompareAndSwapInt32", "internal/race.Enable", "internal/race.Acquire", "(*internal/sync.Mutex).lockSlow", "internal/sync.runtime_canSpin", "internal/sync.runtime_doSpin", "internal/sync.throw", "internal/sync.runtime_nanotime", "internal/sync.runtime_SemacquireMutex", "sync/atomic.AddInt32", "(*internal/sync.Mutex).Unlock", "internal/race.ReleaseMerge", "(*internal/sync.Mutex).unlockSlow", "internal/sync.fatal", "internal/sync.runtime_Semrelease", "sync/atomic.StoreUint32", "sync/atomic.LoadUint64", "sync/atomic.OrUint64", "sync/atomic.AndUint64"], unfollowed := true, recurses := true, apart := false, narrowed := true }
def SweepPoolUptoSaid : Prop := sweepPoolUptoRow.holds Try.pinned (OpenSpec.upto sweepPoolSpec)

/-- 'hawthornlaw18.SweepBegins', WHERE WHAT IT READS IS OF BULK AT MOST 1048576: true; the input reads as it did. -/
def sweepBeginsUptoRow : OpenClaim := { program := "ytknmlfolbapmpaa", sum := "12af491efa0bfd2a0f36f8b79dd1863a8fecb40d2657bcc5e770a09a388c8cd3", func := "hawthorn/hawthornlaw18.SweepBegins", spec := "sweepBegins", inPlace := ["sync/atomic.LoadUint32", "(*internal/sync.Mutex).Lock", "internal/race.Disable", "sync/atomic.CompareAndSwapInt32", "internal/race.Enable", "internal/race.Acquire", "(*internal/sync.Mutex).lockSlow", "internal/sync.runtime_canSpin", "internal/sync.runtime_doSpin", "internal/sync.throw", "internal/sync.runtime_nanotime", "internal/sync.runtime_SemacquireMutex", "sync/atomic.AddInt32", "(*internal/sync.Mutex).Unlock", "internal/race.ReleaseMerge", "(*internal/sync.Mutex).unlockSlow", "internal/sync.fatal", "internal/sync.runtime_Semrelease", "sync/atomic.StoreUint32", "sync/atomic.LoadUint64", "sync/atomic.OrUint64", "sync/atomic.AndUint64"], unfollowed := true, recurses := true, apart := false, narrowed := true }
def SweepBeginsUptoSaid : Prop := sweepBeginsUptoRow.holds Try.pinned (OpenSpec.upto sweepBeginsSpec)

/-- 'hawthornlaw15.VybEnough', WHERE WHAT IT READS IS OF BULK AT MOST 1048576: true; the input reads as it did. -/
def vybEnoughUptoRow : OpenClaim := { program := "ytknmlfolbapmpaa", sum := "12af491efa0bfd2a0f36f8b79dd1863a8fecb40d2657bcc5e770a09a388c8cd3", func := "hawthorn/hawthornlaw15.VybEnough", spec := "vybEnough", inPlace := ["sync/atomic.LoadUint32", "(*internal/sync.Mutex).Lock", "internal/race.Disable", "sync/atomic.CompareAndSwapInt32", "internal/race.Enable", "internal/race.Acquire", "(*internal/sync.Mutex).lockSlow", "internal/sync.runtime_canSpin", "internal/sync.runtime_doSpin", "internal/sync.throw", "internal/sync.runtime_nanotime", "internal/sync.runtime_SemacquireMutex", "sync/atomic.AddInt32", "(*internal/sync.Mutex).Unlock", "internal/race.ReleaseMerge", "(*internal/sync.Mutex).unlockSlow", "internal/sync.fatal", "internal/sync.runtime_Semrelease", "sync/atomic.StoreUint32", "sync/atomic.LoadUint64", "sync/atomic.OrUint64"], unfollowed := true, recurses := true, apart := false, narrowed := true }
def VybEnoughUptoSaid : Prop := vybEnoughUptoRow.holds Try.pinned (OpenSpec.upto vybEnoughSpec)

/-- 'hawthornlaw15.VybSaturates', WHERE WHAT IT READS IS OF BULK AT MOST 1048576: true; the input reads as it did. -/
def vybSaturatesUptoRow : OpenClaim := { program := "ytknmlfolbapmpaa", sum := "12af491efa0bfd2a0f36f8b79dd1863a8fecb40d2657bcc5e770a09a388c8cd3", func := "hawthorn/hawthornlaw15.VybSaturates", spec := "vybSaturates", inPlace := ["sync/atomic.LoadUint32", "(*internal/sync.Mutex).Lock", "internal/race.Disable", "sync/atomic.CompareAndSwapInt32", "internal/race.Enable", "internal/race.Acquire", "(*internal/sync.Mutex).lockSlow", "internal/sync.runtime_canSpin", "internal/sync.runtime_doSpin", "internal/sync.throw", "internal/sync.runtime_nanotime", "internal/sync.runtime_SemacquireMutex", "sync/atomic.AddInt32", "(*internal/sync.Mutex).Unlock", "internal/race.ReleaseMerge", "(*internal/sync.Mutex).unlockSlow", "internal/sync.fatal", "internal/sync.runtime_Semrelease", "sync/atomic.StoreUint32", "sync/atomic.LoadUint64", "sync/atomic.OrUint64"], unfollowed := true, recurses := true, apart := false, narrowed := true }
def VybSaturatesUptoSaid : Prop := vybSaturatesUptoRow.holds Try.pinned (OpenSpec.upto vybSaturatesSpec)

/-- 'hawthornlaw15.VybRemarks', WHERE WHAT IT READS IS OF BULK AT MOST 1048576: true; the input reads as it did. -/
def vybRemarksUptoRow : OpenClaim := { program := "ytknmlfolbapmpaa", sum := "12af491efa0bfd2a0f36f8b79dd1863a8fecb40d2657bcc5e770a09a388c8cd3", func := "hawthorn/hawthornlaw15.VybRemarks", spec := "vybRemarks", inPlace := ["sync/atomic.LoadUint32", "(*internal/sync.Mutex).Lock", "internal/race.Disable", "sync/atomic.CompareAndSwapInt32", "internal/race.Enable", "internal/race.Acquire", "(*internal/sync.Mutex).lockSlow", "internal/sync.runtime_canSpin", "internal/sync.runtime_doSpin", "internal/sync.throw", "internal/sync.runtime_nanotime", "internal/sync.runtime_SemacquireMutex", "sync/atomic.AddInt32", "(*internal/sync.Mutex).Unlock", "internal/race.ReleaseMerge", "(*internal/sync.Mutex).unlockSlow", "internal/sync.fatal", "internal/sync.runtime_Semrelease", "sync/atomic.StoreUint32", "sync/atomic.LoadUint64", "sync/atomic.OrUint64"], unfollowed := true, recurses := true, apart := false, narrowed := true }
def VybRemarksUptoSaid : Prop := vybRemarksUptoRow.holds Try.pinned (OpenSpec.upto vybRemarksSpec)

/-- 'hawthornlaw13.DijkstraKeeps', WHERE WHAT IT READS IS OF BULK AT MOST 1048576: true; the input reads as it did. -/
def dijkstraKeepsUptoRow : OpenClaim := { program := "ytknmlfolbapmpaa", sum := "12af491efa0bfd2a0f36f8b79dd1863a8fecb40d2657bcc5e770a09a388c8cd3", func := "hawthorn/hawthornlaw13.DijkstraKeeps", spec := "dijkstraKeeps", inPlace := ["sync/atomic.LoadUint32", "(*internal/sync.Mutex).Lock", "internal/race.Disable", "sync/atomic.CompareAndSwapInt32", "internal/race.Enable", "internal/race.Acquire", "(*internal/sync.Mutex).lockSlow", "internal/sync.runtime_canSpin", "internal/sync.runtime_doSpin", "internal/sync.throw", "internal/sync.runtime_nanotime", "internal/sync.runtime_SemacquireMutex", "sync/atomic.AddInt32", "(*internal/sync.Mutex).Unlock", "internal/race.ReleaseMerge", "(*internal/sync.Mutex).unlockSlow", "internal/sync.fatal", "internal/sync.runtime_Semrelease", "sync/atomic.StoreUint32", "sync/atomic.LoadUint64", "sync/atomic.OrUint64"], unfollowed := true, recurses := true, apart := false, narrowed := true }
def DijkstraKeepsUptoSaid : Prop := dijkstraKeepsUptoRow.holds Try.pinned (OpenSpec.upto dijkstraKeepsSpec)

/-- 'hawthornlaw13.DijkstraNone', WHERE WHAT IT READS IS OF BULK AT MOST 1048576: true; the input reads as it did. -/
def dijkstraNoneUptoRow : OpenClaim := { program := "ytknmlfolbapmpaa", sum := "12af491efa0bfd2a0f36f8b79dd1863a8fecb40d2657bcc5e770a09a388c8cd3", func := "hawthorn/hawthornlaw13.DijkstraNone", spec := "dijkstraNone", inPlace := ["sync/atomic.LoadUint32", "(*internal/sync.Mutex).Lock", "internal/race.Disable", "sync/atomic.CompareAndSwapInt32", "internal/race.Enable", "internal/race.Acquire", "(*internal/sync.Mutex).lockSlow", "internal/sync.runtime_canSpin", "internal/sync.runtime_doSpin", "internal/sync.throw", "internal/sync.runtime_nanotime", "internal/sync.runtime_SemacquireMutex", "sync/atomic.AddInt32", "(*internal/sync.Mutex).Unlock", "internal/race.ReleaseMerge", "(*internal/sync.Mutex).unlockSlow", "internal/sync.fatal", "internal/sync.runtime_Semrelease", "sync/atomic.StoreUint32", "sync/atomic.LoadUint64", "sync/atomic.OrUint64"], unfollowed := true, recurses := true, apart := false, narrowed := true }
def DijkstraNoneUptoSaid : Prop := dijkstraNoneUptoRow.holds Try.pinned (OpenSpec.upto dijkstraNoneSpec)

/-- 'hawthornlaw18.SweepMeets', WHERE WHAT IT READS IS OF BULK AT MOST 1048576: true; the input reads as it did. -/
def sweepMeetsUptoRow : OpenClaim := { program := "ytknmlfolbapmpaa", sum := "12af491efa0bfd2a0f36f8b79dd1863a8fecb40d2657bcc5e770a09a388c8cd3", func := "hawthorn/hawthornlaw18.SweepMeets", spec := "sweepMeets", inPlace := ["sync/atomic.LoadUint32", "(*internal/sync.Mutex).Lock", "internal/race.Disable", "sync/atomic.CompareAndSwapInt32", "internal/race.Enable", "internal/race.Acquire", "(*internal/sync.Mutex).lockSlow", "internal/sync.runtime_canSpin", "internal/sync.runtime_doSpin", "internal/sync.throw", "internal/sync.runtime_nanotime", "internal/sync.runtime_SemacquireMutex", "sync/atomic.AddInt32", "(*internal/sync.Mutex).Unlock", "internal/race.ReleaseMerge", "(*internal/sync.Mutex).unlockSlow", "internal/sync.fatal", "internal/sync.runtime_Semrelease", "sync/atomic.StoreUint32", "sync/atomic.LoadUint64", "sync/atomic.OrUint64", "sync/atomic.AndUint64"], unfollowed := true, recurses := true, apart := false, narrowed := true }
def SweepMeetsUptoSaid : Prop := sweepMeetsUptoRow.holds Try.pinned (OpenSpec.upto sweepMeetsSpec)

/-- 'hawthornlaw14.YuasaSnapshot', WHERE WHAT IT READS IS OF BULK AT MOST 1048576: true; the input reads as it did. -/
def yuasaSnapshotUptoRow : OpenClaim := { program := "ytknmlfolbapmpaa", sum := "12af491efa0bfd2a0f36f8b79dd1863a8fecb40d2657bcc5e770a09a388c8cd3", func := "hawthorn/hawthornlaw14.YuasaSnapshot", spec := "yuasaSnapshot", inPlace := ["sync/atomic.LoadUint32", "(*internal/sync.Mutex).Lock", "internal/race.Disable", "sync/atomic.CompareAndSwapInt32", "internal/race.Enable", "internal/race.Acquire", "(*internal/sync.Mutex).lockSlow", "internal/sync.runtime_canSpin", "internal/sync.runtime_doSpin", "internal/sync.throw", "internal/sync.runtime_nanotime", "internal/sync.runtime_SemacquireMutex", "sync/atomic.AddInt32", "(*internal/sync.Mutex).Unlock", "internal/race.ReleaseMerge", "(*internal/sync.Mutex).unlockSlow", "internal/sync.fatal", "internal/sync.runtime_Semrelease", "sync/atomic.StoreUint32", "sync/atomic.LoadUint64", "sync/atomic.OrUint64"], unfollowed := true, recurses := true, apart := false, narrowed := true }
def YuasaSnapshotUptoSaid : Prop := yuasaSnapshotUptoRow.holds Try.pinned (OpenSpec.upto yuasaSnapshotSpec)

/-- 'hawthornlaw11.MarkAgain', WHERE WHAT IT READS IS OF BULK AT MOST 1048576: true; the input reads as it did. -/
def markAgainUptoRow : OpenClaim := { program := "ytknmlfolbapmpaa", sum := "12af491efa0bfd2a0f36f8b79dd1863a8fecb40d2657bcc5e770a09a388c8cd3", func := "hawthorn/hawthornlaw11.MarkAgain", spec := "markAgain", inPlace := ["sync/atomic.LoadUint32", "(*internal/sync.Mutex).Lock", "internal/race.Disable", "sync/atomic.CompareAndSwapInt32", "internal/race.Enable", "internal/race.Acquire", "(*internal/sync.Mutex).lockSlow", "internal/sync.runtime_canSpin", "internal/sync.runtime_doSpin", "internal/sync.throw", "internal/sync.runtime_nanotime", "internal/sync.runtime_SemacquireMutex", "sync/atomic.AddInt32", "(*internal/sync.Mutex).Unlock", "internal/race.ReleaseMerge", "(*internal/sync.Mutex).unlockSlow", "internal/sync.fatal", "internal/sync.runtime_Semrelease", "sync/atomic.StoreUint32", "sync/atomic.LoadUint64", "sync/atomic.OrUint64", "sync/atomic.AndUint64"], unfollowed := true, recurses := true, apart := false, narrowed := true }
def MarkAgainUptoSaid : Prop := markAgainUptoRow.holds Try.pinned (OpenSpec.upto markAgainSpec)

/-- 'hawthornlaw15.VybWhite', WHERE WHAT IT READS IS OF BULK AT MOST 1048576: true; the input reads as it did. -/
def vybWhiteUptoRow : OpenClaim := { program := "ytknmlfolbapmpaa", sum := "12af491efa0bfd2a0f36f8b79dd1863a8fecb40d2657bcc5e770a09a388c8cd3", func := "hawthorn/hawthornlaw15.VybWhite", spec := "vybWhite", inPlace := ["sync/atomic.LoadUint32", "(*internal/sync.Mutex).Lock", "internal/race.Disable", "sync/atomic.CompareAndSwapInt32", "internal/race.Enable", "internal/race.Acquire", "(*internal/sync.Mutex).lockSlow", "internal/sync.runtime_canSpin", "internal/sync.runtime_doSpin", "internal/sync.throw", "internal/sync.runtime_nanotime", "internal/sync.runtime_SemacquireMutex", "sync/atomic.AddInt32", "(*internal/sync.Mutex).Unlock", "internal/race.ReleaseMerge", "(*internal/sync.Mutex).unlockSlow", "internal/sync.fatal", "internal/sync.runtime_Semrelease", "sync/atomic.StoreUint32", "sync/atomic.LoadUint64", "sync/atomic.OrUint64"], unfollowed := true, recurses := true, apart := false, narrowed := true }
def VybWhiteUptoSaid : Prop := vybWhiteUptoRow.holds Try.pinned (OpenSpec.upto vybWhiteSpec)

/-- 'hawthornlaw15.VybCounts', WHERE WHAT IT READS IS OF BULK AT MOST 1048576: true; the input reads as it did. -/
def vybCountsUptoRow : OpenClaim := { program := "ytknmlfolbapmpaa", sum := "12af491efa0bfd2a0f36f8b79dd1863a8fecb40d2657bcc5e770a09a388c8cd3", func := "hawthorn/hawthornlaw15.VybCounts", spec := "vybCounts", inPlace := ["sync/atomic.LoadUint32", "(*internal/sync.Mutex).Lock", "internal/race.Disable", "sync/atomic.CompareAndSwapInt32", "internal/race.Enable", "internal/race.Acquire", "(*internal/sync.Mutex).lockSlow", "internal/sync.runtime_canSpin", "internal/sync.runtime_doSpin", "internal/sync.throw", "internal/sync.runtime_nanotime", "internal/sync.runtime_SemacquireMutex", "sync/atomic.AddInt32", "(*internal/sync.Mutex).Unlock", "internal/race.ReleaseMerge", "(*internal/sync.Mutex).unlockSlow", "internal/sync.fatal", "internal/sync.runtime_Semrelease", "sync/atomic.StoreUint32", "sync/atomic.LoadUint64", "sync/atomic.OrUint64"], unfollowed := true, recurses := true, apart := false, narrowed := true }
def VybCountsUptoSaid : Prop := vybCountsUptoRow.holds Try.pinned (OpenSpec.upto vybCountsSpec)

end Rows
end Go.Proofs.Ytknmlfolbapmpaa
