/- WRITTEN by wip/gen/bknil.py. The book at kinds of which it holds nothing. -/
import Derived.Test.YtfbdbebahpemhaaGreatProg
import Derived.Test.YtfbdbebahpemhaaGreatQLib
namespace Go.Proofs.YtfbdbebahpemhaaGreat
open Go.RowKit
set_option linter.unusedSimpArgs false
set_option linter.unusedVariables false
set_option maxRecDepth 100000

theorem stillTexts_nil {w : World} {b : Nat} {t : TypeId} {cs : Array Value} (hb : Blk w b t cs) (h : cs[0]? = some (.slice none 0 0)) :
    Calls Tryz.prog 41 #[.pointer (some ⟨b, 0, none⟩)] w fun e w' => e = .returned (.bool true) ∧ w = w' := by
  have c0 := hb.cell 0
  rw [h] at c0
  clear hb h
  go_enter Tryz.func41, Tryz.ntmps41
  go_wp2_with fail
  go_loopg [3] 0 (fun m s wr => m = 0 ∧ s = .int .i64 0 ∧ wr = w)
  case atStart => exact ⟨rfl, rfl, rfl⟩
  case round =>
    obtain ⟨-, rfl, rfl⟩ := hrel
    go_wp2_with fail
    go_ret
    exact ⟨rfl, rfl⟩
theorem putTexts_nil {w : World} {b : Nat} {t : TypeId} {cs : Array Value} (hb : Blk w b t cs) (h : cs[0]? = some (.slice none 0 0)) :
    Calls Tryz.prog 63 #[.pointer (some ⟨b, 0, none⟩)] w fun e w' => e = .returned (.tuple #[]) ∧ w = w' := by
  have c0 := hb.cell 0
  rw [h] at c0
  clear hb h
  go_enter Tryz.func63, Tryz.ntmps63
  go_wp2_with fail
  go_loopg [2] 0 (fun m s wr => m = 0 ∧ s = .int .i64 0 ∧ wr = w)
  case atStart => exact ⟨rfl, rfl, rfl⟩
  case round =>
    obtain ⟨-, rfl, rfl⟩ := hrel
    go_wp2_with fail
    go_end0
    exact ⟨rfl, rfl⟩
theorem growTexts_nil {w : World} {b : Nat} {t : TypeId} {cs : Array Value} (hb : Blk w b t cs) (h : cs[0]? = some (.slice none 0 0)) :
    Calls Tryz.prog 77 #[.pointer (some ⟨b, 0, none⟩)] w fun e w' => e = .returned (.slice none 0 0) ∧ w = w' := by
  have c0 := hb.cell 0
  rw [h] at c0
  clear hb h
  go_enter Tryz.func77, Tryz.ntmps77
  go_wp2_with fail
  go_loopg [3, 4] 0 (fun m s3 s wr => m = 0 ∧ s3 = .slice none 0 0 ∧ s = .int .i64 0 ∧ wr = w)
  case atStart => exact ⟨rfl, rfl, rfl, rfl⟩
  case round =>
    obtain ⟨-, rfl, rfl, rfl⟩ := hrel
    go_wp2_with fail
    go_ret
    exact ⟨rfl, rfl⟩
theorem markedTexts_nil (w : World) : Calls Tryz.prog 95 #[.slice none 0 0] w fun e w' => e = .returned (.bool true) ∧ w = w' := by
  go_enter Tryz.func95, Tryz.ntmps95
  go_wp2_with fail
  go_loopg [3] 0 (fun m s wr => m = 0 ∧ s = .int .i64 0 ∧ wr = w)
  case atStart => exact ⟨rfl, rfl, rfl⟩
  case round =>
    obtain ⟨-, rfl, rfl⟩ := hrel
    go_wp2_with fail
    go_ret
    exact ⟨rfl, rfl⟩
theorem stillInts_nil {w : World} {b : Nat} {t : TypeId} {cs : Array Value} (hb : Blk w b t cs) (h : cs[2]? = some (.slice none 0 0)) :
    Calls Tryz.prog 42 #[.pointer (some ⟨b, 0, none⟩)] w fun e w' => e = .returned (.bool true) ∧ w = w' := by
  have c0 := hb.cell 2
  rw [h] at c0
  clear hb h
  go_enter Tryz.func42, Tryz.ntmps42
  go_wp2_with fail
  go_loopg [3] 0 (fun m s wr => m = 0 ∧ s = .int .i64 0 ∧ wr = w)
  case atStart => exact ⟨rfl, rfl, rfl⟩
  case round =>
    obtain ⟨-, rfl, rfl⟩ := hrel
    go_wp2_with fail
    go_ret
    exact ⟨rfl, rfl⟩
theorem putInts_nil {w : World} {b : Nat} {t : TypeId} {cs : Array Value} (hb : Blk w b t cs) (h : cs[2]? = some (.slice none 0 0)) :
    Calls Tryz.prog 64 #[.pointer (some ⟨b, 0, none⟩)] w fun e w' => e = .returned (.tuple #[]) ∧ w = w' := by
  have c0 := hb.cell 2
  rw [h] at c0
  clear hb h
  go_enter Tryz.func64, Tryz.ntmps64
  go_wp2_with fail
  go_loopg [2] 0 (fun m s wr => m = 0 ∧ s = .int .i64 0 ∧ wr = w)
  case atStart => exact ⟨rfl, rfl, rfl⟩
  case round =>
    obtain ⟨-, rfl, rfl⟩ := hrel
    go_wp2_with fail
    go_end0
    exact ⟨rfl, rfl⟩
theorem growInts_nil {w : World} {b : Nat} {t : TypeId} {cs : Array Value} (hb : Blk w b t cs) (h : cs[2]? = some (.slice none 0 0)) :
    Calls Tryz.prog 78 #[.pointer (some ⟨b, 0, none⟩)] w fun e w' => e = .returned (.slice none 0 0) ∧ w = w' := by
  have c0 := hb.cell 2
  rw [h] at c0
  clear hb h
  go_enter Tryz.func78, Tryz.ntmps78
  go_wp2_with fail
  go_loopg [3, 4] 0 (fun m s3 s wr => m = 0 ∧ s3 = .slice none 0 0 ∧ s = .int .i64 0 ∧ wr = w)
  case atStart => exact ⟨rfl, rfl, rfl, rfl⟩
  case round =>
    obtain ⟨-, rfl, rfl, rfl⟩ := hrel
    go_wp2_with fail
    go_ret
    exact ⟨rfl, rfl⟩
theorem markedInts_nil (w : World) : Calls Tryz.prog 96 #[.slice none 0 0] w fun e w' => e = .returned (.bool true) ∧ w = w' := by
  go_enter Tryz.func96, Tryz.ntmps96
  go_wp2_with fail
  go_loopg [3] 0 (fun m s wr => m = 0 ∧ s = .int .i64 0 ∧ wr = w)
  case atStart => exact ⟨rfl, rfl, rfl⟩
  case round =>
    obtain ⟨-, rfl, rfl⟩ := hrel
    go_wp2_with fail
    go_ret
    exact ⟨rfl, rfl⟩
theorem stillEthers_nil {w : World} {b : Nat} {t : TypeId} {cs : Array Value} (hb : Blk w b t cs) (h : cs[4]? = some (.slice none 0 0)) :
    Calls Tryz.prog 43 #[.pointer (some ⟨b, 0, none⟩)] w fun e w' => e = .returned (.bool true) ∧ w = w' := by
  have c0 := hb.cell 4
  rw [h] at c0
  clear hb h
  go_enter Tryz.func43, Tryz.ntmps43
  go_wp2_with fail
  go_loopg [3] 0 (fun m s wr => m = 0 ∧ s = .int .i64 0 ∧ wr = w)
  case atStart => exact ⟨rfl, rfl, rfl⟩
  case round =>
    obtain ⟨-, rfl, rfl⟩ := hrel
    go_wp2_with fail
    go_ret
    exact ⟨rfl, rfl⟩
theorem putEthers_nil {w : World} {b : Nat} {t : TypeId} {cs : Array Value} (hb : Blk w b t cs) (h : cs[4]? = some (.slice none 0 0)) :
    Calls Tryz.prog 65 #[.pointer (some ⟨b, 0, none⟩)] w fun e w' => e = .returned (.tuple #[]) ∧ w = w' := by
  have c0 := hb.cell 4
  rw [h] at c0
  clear hb h
  go_enter Tryz.func65, Tryz.ntmps65
  go_wp2_with fail
  go_loopg [2] 0 (fun m s wr => m = 0 ∧ s = .int .i64 0 ∧ wr = w)
  case atStart => exact ⟨rfl, rfl, rfl⟩
  case round =>
    obtain ⟨-, rfl, rfl⟩ := hrel
    go_wp2_with fail
    go_end0
    exact ⟨rfl, rfl⟩
theorem growEthers_nil {w : World} {b : Nat} {t : TypeId} {cs : Array Value} (hb : Blk w b t cs) (h : cs[4]? = some (.slice none 0 0)) :
    Calls Tryz.prog 79 #[.pointer (some ⟨b, 0, none⟩)] w fun e w' => e = .returned (.slice none 0 0) ∧ w = w' := by
  have c0 := hb.cell 4
  rw [h] at c0
  clear hb h
  go_enter Tryz.func79, Tryz.ntmps79
  go_wp2_with fail
  go_loopg [3, 4] 0 (fun m s3 s wr => m = 0 ∧ s3 = .slice none 0 0 ∧ s = .int .i64 0 ∧ wr = w)
  case atStart => exact ⟨rfl, rfl, rfl, rfl⟩
  case round =>
    obtain ⟨-, rfl, rfl, rfl⟩ := hrel
    go_wp2_with fail
    go_ret
    exact ⟨rfl, rfl⟩
theorem markedEthers_nil (w : World) : Calls Tryz.prog 97 #[.slice none 0 0] w fun e w' => e = .returned (.bool true) ∧ w = w' := by
  go_enter Tryz.func97, Tryz.ntmps97
  go_wp2_with fail
  go_loopg [3] 0 (fun m s wr => m = 0 ∧ s = .int .i64 0 ∧ wr = w)
  case atStart => exact ⟨rfl, rfl, rfl⟩
  case round =>
    obtain ⟨-, rfl, rfl⟩ := hrel
    go_wp2_with fail
    go_ret
    exact ⟨rfl, rfl⟩
theorem stillTags_nil {w : World} {b : Nat} {t : TypeId} {cs : Array Value} (hb : Blk w b t cs) (h : cs[6]? = some (.slice none 0 0)) :
    Calls Tryz.prog 44 #[.pointer (some ⟨b, 0, none⟩)] w fun e w' => e = .returned (.bool true) ∧ w = w' := by
  have c0 := hb.cell 6
  rw [h] at c0
  clear hb h
  go_enter Tryz.func44, Tryz.ntmps44
  go_wp2_with fail
  go_loopg [3] 0 (fun m s wr => m = 0 ∧ s = .int .i64 0 ∧ wr = w)
  case atStart => exact ⟨rfl, rfl, rfl⟩
  case round =>
    obtain ⟨-, rfl, rfl⟩ := hrel
    go_wp2_with fail
    go_ret
    exact ⟨rfl, rfl⟩
theorem putTags_nil {w : World} {b : Nat} {t : TypeId} {cs : Array Value} (hb : Blk w b t cs) (h : cs[6]? = some (.slice none 0 0)) :
    Calls Tryz.prog 66 #[.pointer (some ⟨b, 0, none⟩)] w fun e w' => e = .returned (.tuple #[]) ∧ w = w' := by
  have c0 := hb.cell 6
  rw [h] at c0
  clear hb h
  go_enter Tryz.func66, Tryz.ntmps66
  go_wp2_with fail
  go_loopg [2] 0 (fun m s wr => m = 0 ∧ s = .int .i64 0 ∧ wr = w)
  case atStart => exact ⟨rfl, rfl, rfl⟩
  case round =>
    obtain ⟨-, rfl, rfl⟩ := hrel
    go_wp2_with fail
    go_end0
    exact ⟨rfl, rfl⟩
theorem growTags_nil {w : World} {b : Nat} {t : TypeId} {cs : Array Value} (hb : Blk w b t cs) (h : cs[6]? = some (.slice none 0 0)) :
    Calls Tryz.prog 80 #[.pointer (some ⟨b, 0, none⟩)] w fun e w' => e = .returned (.slice none 0 0) ∧ w = w' := by
  have c0 := hb.cell 6
  rw [h] at c0
  clear hb h
  go_enter Tryz.func80, Tryz.ntmps80
  go_wp2_with fail
  go_loopg [3, 4] 0 (fun m s3 s wr => m = 0 ∧ s3 = .slice none 0 0 ∧ s = .int .i64 0 ∧ wr = w)
  case atStart => exact ⟨rfl, rfl, rfl, rfl⟩
  case round =>
    obtain ⟨-, rfl, rfl, rfl⟩ := hrel
    go_wp2_with fail
    go_ret
    exact ⟨rfl, rfl⟩
theorem markedTags_nil (w : World) : Calls Tryz.prog 98 #[.slice none 0 0] w fun e w' => e = .returned (.bool true) ∧ w = w' := by
  go_enter Tryz.func98, Tryz.ntmps98
  go_wp2_with fail
  go_loopg [3] 0 (fun m s wr => m = 0 ∧ s = .int .i64 0 ∧ wr = w)
  case atStart => exact ⟨rfl, rfl, rfl⟩
  case round =>
    obtain ⟨-, rfl, rfl⟩ := hrel
    go_wp2_with fail
    go_ret
    exact ⟨rfl, rfl⟩
theorem stillOptions_nil {w : World} {b : Nat} {t : TypeId} {cs : Array Value} (hb : Blk w b t cs) (h : cs[8]? = some (.slice none 0 0)) :
    Calls Tryz.prog 45 #[.pointer (some ⟨b, 0, none⟩)] w fun e w' => e = .returned (.bool true) ∧ w = w' := by
  have c0 := hb.cell 8
  rw [h] at c0
  clear hb h
  go_enter Tryz.func45, Tryz.ntmps45
  go_wp2_with fail
  go_loopg [3] 0 (fun m s wr => m = 0 ∧ s = .int .i64 0 ∧ wr = w)
  case atStart => exact ⟨rfl, rfl, rfl⟩
  case round =>
    obtain ⟨-, rfl, rfl⟩ := hrel
    go_wp2_with fail
    go_ret
    exact ⟨rfl, rfl⟩
theorem putOptions_nil {w : World} {b : Nat} {t : TypeId} {cs : Array Value} (hb : Blk w b t cs) (h : cs[8]? = some (.slice none 0 0)) :
    Calls Tryz.prog 67 #[.pointer (some ⟨b, 0, none⟩)] w fun e w' => e = .returned (.tuple #[]) ∧ w = w' := by
  have c0 := hb.cell 8
  rw [h] at c0
  clear hb h
  go_enter Tryz.func67, Tryz.ntmps67
  go_wp2_with fail
  go_loopg [2] 0 (fun m s wr => m = 0 ∧ s = .int .i64 0 ∧ wr = w)
  case atStart => exact ⟨rfl, rfl, rfl⟩
  case round =>
    obtain ⟨-, rfl, rfl⟩ := hrel
    go_wp2_with fail
    go_end0
    exact ⟨rfl, rfl⟩
theorem growOptions_nil {w : World} {b : Nat} {t : TypeId} {cs : Array Value} (hb : Blk w b t cs) (h : cs[8]? = some (.slice none 0 0)) :
    Calls Tryz.prog 81 #[.pointer (some ⟨b, 0, none⟩)] w fun e w' => e = .returned (.slice none 0 0) ∧ w = w' := by
  have c0 := hb.cell 8
  rw [h] at c0
  clear hb h
  go_enter Tryz.func81, Tryz.ntmps81
  go_wp2_with fail
  go_loopg [3, 4] 0 (fun m s3 s wr => m = 0 ∧ s3 = .slice none 0 0 ∧ s = .int .i64 0 ∧ wr = w)
  case atStart => exact ⟨rfl, rfl, rfl, rfl⟩
  case round =>
    obtain ⟨-, rfl, rfl, rfl⟩ := hrel
    go_wp2_with fail
    go_ret
    exact ⟨rfl, rfl⟩
theorem markedOptions_nil (w : World) : Calls Tryz.prog 99 #[.slice none 0 0] w fun e w' => e = .returned (.bool true) ∧ w = w' := by
  go_enter Tryz.func99, Tryz.ntmps99
  go_wp2_with fail
  go_loopg [3] 0 (fun m s wr => m = 0 ∧ s = .int .i64 0 ∧ wr = w)
  case atStart => exact ⟨rfl, rfl, rfl⟩
  case round =>
    obtain ⟨-, rfl, rfl⟩ := hrel
    go_wp2_with fail
    go_ret
    exact ⟨rfl, rfl⟩
theorem stillPackets_nil {w : World} {b : Nat} {t : TypeId} {cs : Array Value} (hb : Blk w b t cs) (h : cs[10]? = some (.slice none 0 0)) :
    Calls Tryz.prog 46 #[.pointer (some ⟨b, 0, none⟩)] w fun e w' => e = .returned (.bool true) ∧ w = w' := by
  have c0 := hb.cell 10
  rw [h] at c0
  clear hb h
  go_enter Tryz.func46, Tryz.ntmps46
  go_wp2_with fail
  go_loopg [3] 0 (fun m s wr => m = 0 ∧ s = .int .i64 0 ∧ wr = w)
  case atStart => exact ⟨rfl, rfl, rfl⟩
  case round =>
    obtain ⟨-, rfl, rfl⟩ := hrel
    go_wp2_with fail
    go_ret
    exact ⟨rfl, rfl⟩
theorem putPackets_nil {w : World} {b : Nat} {t : TypeId} {cs : Array Value} (hb : Blk w b t cs) (h : cs[10]? = some (.slice none 0 0)) :
    Calls Tryz.prog 59 #[.pointer (some ⟨b, 0, none⟩)] w fun e w' => e = .returned (.tuple #[]) ∧ w = w' := by
  have c0 := hb.cell 10
  rw [h] at c0
  clear hb h
  go_enter Tryz.func59, Tryz.ntmps59
  go_wp2_with fail
  go_loopg [2] 0 (fun m s wr => m = 0 ∧ s = .int .i64 0 ∧ wr = w)
  case atStart => exact ⟨rfl, rfl, rfl⟩
  case round =>
    obtain ⟨-, rfl, rfl⟩ := hrel
    go_wp2_with fail
    go_end0
    exact ⟨rfl, rfl⟩
theorem growPackets_nil {w : World} {b : Nat} {t : TypeId} {cs : Array Value} (hb : Blk w b t cs) (h : cs[10]? = some (.slice none 0 0)) :
    Calls Tryz.prog 82 #[.pointer (some ⟨b, 0, none⟩)] w fun e w' => e = .returned (.slice none 0 0) ∧ w = w' := by
  have c0 := hb.cell 10
  rw [h] at c0
  clear hb h
  go_enter Tryz.func82, Tryz.ntmps82
  go_wp2_with fail
  go_loopg [3, 4] 0 (fun m s3 s wr => m = 0 ∧ s3 = .slice none 0 0 ∧ s = .int .i64 0 ∧ wr = w)
  case atStart => exact ⟨rfl, rfl, rfl, rfl⟩
  case round =>
    obtain ⟨-, rfl, rfl, rfl⟩ := hrel
    go_wp2_with fail
    go_ret
    exact ⟨rfl, rfl⟩
theorem markedPackets_nil (w : World) : Calls Tryz.prog 100 #[.slice none 0 0] w fun e w' => e = .returned (.bool true) ∧ w = w' := by
  go_enter Tryz.func100, Tryz.ntmps100
  go_wp2_with fail
  go_loopg [3] 0 (fun m s wr => m = 0 ∧ s = .int .i64 0 ∧ wr = w)
  case atStart => exact ⟨rfl, rfl, rfl⟩
  case round =>
    obtain ⟨-, rfl, rfl⟩ := hrel
    go_wp2_with fail
    go_ret
    exact ⟨rfl, rfl⟩
theorem stillAvps_nil {w : World} {b : Nat} {t : TypeId} {cs : Array Value} (hb : Blk w b t cs) (h : cs[12]? = some (.slice none 0 0)) :
    Calls Tryz.prog 47 #[.pointer (some ⟨b, 0, none⟩)] w fun e w' => e = .returned (.bool true) ∧ w = w' := by
  have c0 := hb.cell 12
  rw [h] at c0
  clear hb h
  go_enter Tryz.func47, Tryz.ntmps47
  go_wp2_with fail
  go_loopg [3] 0 (fun m s wr => m = 0 ∧ s = .int .i64 0 ∧ wr = w)
  case atStart => exact ⟨rfl, rfl, rfl⟩
  case round =>
    obtain ⟨-, rfl, rfl⟩ := hrel
    go_wp2_with fail
    go_ret
    exact ⟨rfl, rfl⟩
theorem putAvps_nil {w : World} {b : Nat} {t : TypeId} {cs : Array Value} (hb : Blk w b t cs) (h : cs[12]? = some (.slice none 0 0)) :
    Calls Tryz.prog 68 #[.pointer (some ⟨b, 0, none⟩)] w fun e w' => e = .returned (.tuple #[]) ∧ w = w' := by
  have c0 := hb.cell 12
  rw [h] at c0
  clear hb h
  go_enter Tryz.func68, Tryz.ntmps68
  go_wp2_with fail
  go_loopg [2] 0 (fun m s wr => m = 0 ∧ s = .int .i64 0 ∧ wr = w)
  case atStart => exact ⟨rfl, rfl, rfl⟩
  case round =>
    obtain ⟨-, rfl, rfl⟩ := hrel
    go_wp2_with fail
    go_end0
    exact ⟨rfl, rfl⟩
theorem growAvps_nil {w : World} {b : Nat} {t : TypeId} {cs : Array Value} (hb : Blk w b t cs) (h : cs[12]? = some (.slice none 0 0)) :
    Calls Tryz.prog 83 #[.pointer (some ⟨b, 0, none⟩)] w fun e w' => e = .returned (.slice none 0 0) ∧ w = w' := by
  have c0 := hb.cell 12
  rw [h] at c0
  clear hb h
  go_enter Tryz.func83, Tryz.ntmps83
  go_wp2_with fail
  go_loopg [3, 4] 0 (fun m s3 s wr => m = 0 ∧ s3 = .slice none 0 0 ∧ s = .int .i64 0 ∧ wr = w)
  case atStart => exact ⟨rfl, rfl, rfl, rfl⟩
  case round =>
    obtain ⟨-, rfl, rfl, rfl⟩ := hrel
    go_wp2_with fail
    go_ret
    exact ⟨rfl, rfl⟩
theorem markedAvps_nil (w : World) : Calls Tryz.prog 101 #[.slice none 0 0] w fun e w' => e = .returned (.bool true) ∧ w = w' := by
  go_enter Tryz.func101, Tryz.ntmps101
  go_wp2_with fail
  go_loopg [3] 0 (fun m s wr => m = 0 ∧ s = .int .i64 0 ∧ wr = w)
  case atStart => exact ⟨rfl, rfl, rfl⟩
  case round =>
    obtain ⟨-, rfl, rfl⟩ := hrel
    go_wp2_with fail
    go_ret
    exact ⟨rfl, rfl⟩
theorem stillCtls_nil {w : World} {b : Nat} {t : TypeId} {cs : Array Value} (hb : Blk w b t cs) (h : cs[14]? = some (.slice none 0 0)) :
    Calls Tryz.prog 48 #[.pointer (some ⟨b, 0, none⟩)] w fun e w' => e = .returned (.bool true) ∧ w = w' := by
  have c0 := hb.cell 14
  rw [h] at c0
  clear hb h
  go_enter Tryz.func48, Tryz.ntmps48
  go_wp2_with fail
  go_loopg [3] 0 (fun m s wr => m = 0 ∧ s = .int .i64 0 ∧ wr = w)
  case atStart => exact ⟨rfl, rfl, rfl⟩
  case round =>
    obtain ⟨-, rfl, rfl⟩ := hrel
    go_wp2_with fail
    go_ret
    exact ⟨rfl, rfl⟩
theorem putCtls_nil {w : World} {b : Nat} {t : TypeId} {cs : Array Value} (hb : Blk w b t cs) (h : cs[14]? = some (.slice none 0 0)) :
    Calls Tryz.prog 60 #[.pointer (some ⟨b, 0, none⟩)] w fun e w' => e = .returned (.tuple #[]) ∧ w = w' := by
  have c0 := hb.cell 14
  rw [h] at c0
  clear hb h
  go_enter Tryz.func60, Tryz.ntmps60
  go_wp2_with fail
  go_loopg [2] 0 (fun m s wr => m = 0 ∧ s = .int .i64 0 ∧ wr = w)
  case atStart => exact ⟨rfl, rfl, rfl⟩
  case round =>
    obtain ⟨-, rfl, rfl⟩ := hrel
    go_wp2_with fail
    go_end0
    exact ⟨rfl, rfl⟩
theorem growCtls_nil {w : World} {b : Nat} {t : TypeId} {cs : Array Value} (hb : Blk w b t cs) (h : cs[14]? = some (.slice none 0 0)) :
    Calls Tryz.prog 84 #[.pointer (some ⟨b, 0, none⟩)] w fun e w' => e = .returned (.slice none 0 0) ∧ w = w' := by
  have c0 := hb.cell 14
  rw [h] at c0
  clear hb h
  go_enter Tryz.func84, Tryz.ntmps84
  go_wp2_with fail
  go_loopg [3, 4] 0 (fun m s3 s wr => m = 0 ∧ s3 = .slice none 0 0 ∧ s = .int .i64 0 ∧ wr = w)
  case atStart => exact ⟨rfl, rfl, rfl, rfl⟩
  case round =>
    obtain ⟨-, rfl, rfl, rfl⟩ := hrel
    go_wp2_with fail
    go_ret
    exact ⟨rfl, rfl⟩
theorem markedCtls_nil (w : World) : Calls Tryz.prog 102 #[.slice none 0 0] w fun e w' => e = .returned (.bool true) ∧ w = w' := by
  go_enter Tryz.func102, Tryz.ntmps102
  go_wp2_with fail
  go_loopg [3] 0 (fun m s wr => m = 0 ∧ s = .int .i64 0 ∧ wr = w)
  case atStart => exact ⟨rfl, rfl, rfl⟩
  case round =>
    obtain ⟨-, rfl, rfl⟩ := hrel
    go_wp2_with fail
    go_ret
    exact ⟨rfl, rfl⟩
theorem stillKeys_nil {w : World} {b : Nat} {t : TypeId} {cs : Array Value} (hb : Blk w b t cs) (h : cs[16]? = some (.slice none 0 0)) :
    Calls Tryz.prog 49 #[.pointer (some ⟨b, 0, none⟩)] w fun e w' => e = .returned (.bool true) ∧ w = w' := by
  have c0 := hb.cell 16
  rw [h] at c0
  clear hb h
  go_enter Tryz.func49, Tryz.ntmps49
  go_wp2_with fail
  go_loopg [3] 0 (fun m s wr => m = 0 ∧ s = .int .i64 0 ∧ wr = w)
  case atStart => exact ⟨rfl, rfl, rfl⟩
  case round =>
    obtain ⟨-, rfl, rfl⟩ := hrel
    go_wp2_with fail
    go_ret
    exact ⟨rfl, rfl⟩
theorem putKeys_nil {w : World} {b : Nat} {t : TypeId} {cs : Array Value} (hb : Blk w b t cs) (h : cs[16]? = some (.slice none 0 0)) :
    Calls Tryz.prog 69 #[.pointer (some ⟨b, 0, none⟩)] w fun e w' => e = .returned (.tuple #[]) ∧ w = w' := by
  have c0 := hb.cell 16
  rw [h] at c0
  clear hb h
  go_enter Tryz.func69, Tryz.ntmps69
  go_wp2_with fail
  go_loopg [2] 0 (fun m s wr => m = 0 ∧ s = .int .i64 0 ∧ wr = w)
  case atStart => exact ⟨rfl, rfl, rfl⟩
  case round =>
    obtain ⟨-, rfl, rfl⟩ := hrel
    go_wp2_with fail
    go_end0
    exact ⟨rfl, rfl⟩
theorem growKeys_nil {w : World} {b : Nat} {t : TypeId} {cs : Array Value} (hb : Blk w b t cs) (h : cs[16]? = some (.slice none 0 0)) :
    Calls Tryz.prog 85 #[.pointer (some ⟨b, 0, none⟩)] w fun e w' => e = .returned (.slice none 0 0) ∧ w = w' := by
  have c0 := hb.cell 16
  rw [h] at c0
  clear hb h
  go_enter Tryz.func85, Tryz.ntmps85
  go_wp2_with fail
  go_loopg [3, 4] 0 (fun m s3 s wr => m = 0 ∧ s3 = .slice none 0 0 ∧ s = .int .i64 0 ∧ wr = w)
  case atStart => exact ⟨rfl, rfl, rfl, rfl⟩
  case round =>
    obtain ⟨-, rfl, rfl, rfl⟩ := hrel
    go_wp2_with fail
    go_ret
    exact ⟨rfl, rfl⟩
theorem markedKeys_nil (w : World) : Calls Tryz.prog 103 #[.slice none 0 0] w fun e w' => e = .returned (.bool true) ∧ w = w' := by
  go_enter Tryz.func103, Tryz.ntmps103
  go_wp2_with fail
  go_loopg [3] 0 (fun m s wr => m = 0 ∧ s = .int .i64 0 ∧ wr = w)
  case atStart => exact ⟨rfl, rfl, rfl⟩
  case round =>
    obtain ⟨-, rfl, rfl⟩ := hrel
    go_wp2_with fail
    go_ret
    exact ⟨rfl, rfl⟩
theorem stillSessions_nil {w : World} {b : Nat} {t : TypeId} {cs : Array Value} (hb : Blk w b t cs) (h : cs[18]? = some (.slice none 0 0)) :
    Calls Tryz.prog 50 #[.pointer (some ⟨b, 0, none⟩)] w fun e w' => e = .returned (.bool true) ∧ w = w' := by
  have c0 := hb.cell 18
  rw [h] at c0
  clear hb h
  go_enter Tryz.func50, Tryz.ntmps50
  go_wp2_with fail
  go_loopg [3] 0 (fun m s wr => m = 0 ∧ s = .int .i64 0 ∧ wr = w)
  case atStart => exact ⟨rfl, rfl, rfl⟩
  case round =>
    obtain ⟨-, rfl, rfl⟩ := hrel
    go_wp2_with fail
    go_ret
    exact ⟨rfl, rfl⟩
theorem putSessions_nil {w : World} {b : Nat} {t : TypeId} {cs : Array Value} (hb : Blk w b t cs) (h : cs[18]? = some (.slice none 0 0)) :
    Calls Tryz.prog 70 #[.pointer (some ⟨b, 0, none⟩)] w fun e w' => e = .returned (.tuple #[]) ∧ w = w' := by
  have c0 := hb.cell 18
  rw [h] at c0
  clear hb h
  go_enter Tryz.func70, Tryz.ntmps70
  go_wp2_with fail
  go_loopg [2] 0 (fun m s wr => m = 0 ∧ s = .int .i64 0 ∧ wr = w)
  case atStart => exact ⟨rfl, rfl, rfl⟩
  case round =>
    obtain ⟨-, rfl, rfl⟩ := hrel
    go_wp2_with fail
    go_end0
    exact ⟨rfl, rfl⟩
theorem growSessions_nil {w : World} {b : Nat} {t : TypeId} {cs : Array Value} (hb : Blk w b t cs) (h : cs[18]? = some (.slice none 0 0)) :
    Calls Tryz.prog 86 #[.pointer (some ⟨b, 0, none⟩)] w fun e w' => e = .returned (.slice none 0 0) ∧ w = w' := by
  have c0 := hb.cell 18
  rw [h] at c0
  clear hb h
  go_enter Tryz.func86, Tryz.ntmps86
  go_wp2_with fail
  go_loopg [3, 4] 0 (fun m s3 s wr => m = 0 ∧ s3 = .slice none 0 0 ∧ s = .int .i64 0 ∧ wr = w)
  case atStart => exact ⟨rfl, rfl, rfl, rfl⟩
  case round =>
    obtain ⟨-, rfl, rfl, rfl⟩ := hrel
    go_wp2_with fail
    go_ret
    exact ⟨rfl, rfl⟩
theorem markedSessions_nil (w : World) : Calls Tryz.prog 104 #[.slice none 0 0] w fun e w' => e = .returned (.bool true) ∧ w = w' := by
  go_enter Tryz.func104, Tryz.ntmps104
  go_wp2_with fail
  go_loopg [3] 0 (fun m s wr => m = 0 ∧ s = .int .i64 0 ∧ wr = w)
  case atStart => exact ⟨rfl, rfl, rfl⟩
  case round =>
    obtain ⟨-, rfl, rfl⟩ := hrel
    go_wp2_with fail
    go_ret
    exact ⟨rfl, rfl⟩
theorem stillIds_nil {w : World} {b : Nat} {t : TypeId} {cs : Array Value} (hb : Blk w b t cs) (h : cs[20]? = some (.slice none 0 0)) :
    Calls Tryz.prog 51 #[.pointer (some ⟨b, 0, none⟩)] w fun e w' => e = .returned (.bool true) ∧ w = w' := by
  have c0 := hb.cell 20
  rw [h] at c0
  clear hb h
  go_enter Tryz.func51, Tryz.ntmps51
  go_wp2_with fail
  go_loopg [3] 0 (fun m s wr => m = 0 ∧ s = .int .i64 0 ∧ wr = w)
  case atStart => exact ⟨rfl, rfl, rfl⟩
  case round =>
    obtain ⟨-, rfl, rfl⟩ := hrel
    go_wp2_with fail
    go_ret
    exact ⟨rfl, rfl⟩
theorem putIds_nil {w : World} {b : Nat} {t : TypeId} {cs : Array Value} (hb : Blk w b t cs) (h : cs[20]? = some (.slice none 0 0)) :
    Calls Tryz.prog 71 #[.pointer (some ⟨b, 0, none⟩)] w fun e w' => e = .returned (.tuple #[]) ∧ w = w' := by
  have c0 := hb.cell 20
  rw [h] at c0
  clear hb h
  go_enter Tryz.func71, Tryz.ntmps71
  go_wp2_with fail
  go_loopg [2] 0 (fun m s wr => m = 0 ∧ s = .int .i64 0 ∧ wr = w)
  case atStart => exact ⟨rfl, rfl, rfl⟩
  case round =>
    obtain ⟨-, rfl, rfl⟩ := hrel
    go_wp2_with fail
    go_end0
    exact ⟨rfl, rfl⟩
theorem growIds_nil {w : World} {b : Nat} {t : TypeId} {cs : Array Value} (hb : Blk w b t cs) (h : cs[20]? = some (.slice none 0 0)) :
    Calls Tryz.prog 87 #[.pointer (some ⟨b, 0, none⟩)] w fun e w' => e = .returned (.slice none 0 0) ∧ w = w' := by
  have c0 := hb.cell 20
  rw [h] at c0
  clear hb h
  go_enter Tryz.func87, Tryz.ntmps87
  go_wp2_with fail
  go_loopg [3, 4] 0 (fun m s3 s wr => m = 0 ∧ s3 = .slice none 0 0 ∧ s = .int .i64 0 ∧ wr = w)
  case atStart => exact ⟨rfl, rfl, rfl, rfl⟩
  case round =>
    obtain ⟨-, rfl, rfl, rfl⟩ := hrel
    go_wp2_with fail
    go_ret
    exact ⟨rfl, rfl⟩
theorem markedIds_nil (w : World) : Calls Tryz.prog 105 #[.slice none 0 0] w fun e w' => e = .returned (.bool true) ∧ w = w' := by
  go_enter Tryz.func105, Tryz.ntmps105
  go_wp2_with fail
  go_loopg [3] 0 (fun m s wr => m = 0 ∧ s = .int .i64 0 ∧ wr = w)
  case atStart => exact ⟨rfl, rfl, rfl⟩
  case round =>
    obtain ⟨-, rfl, rfl⟩ := hrel
    go_wp2_with fail
    go_ret
    exact ⟨rfl, rfl⟩
theorem stillGrams_nil {w : World} {b : Nat} {t : TypeId} {cs : Array Value} (hb : Blk w b t cs) (h : cs[22]? = some (.slice none 0 0)) :
    Calls Tryz.prog 52 #[.pointer (some ⟨b, 0, none⟩)] w fun e w' => e = .returned (.bool true) ∧ w = w' := by
  have c0 := hb.cell 22
  rw [h] at c0
  clear hb h
  go_enter Tryz.func52, Tryz.ntmps52
  go_wp2_with fail
  go_loopg [3] 0 (fun m s wr => m = 0 ∧ s = .int .i64 0 ∧ wr = w)
  case atStart => exact ⟨rfl, rfl, rfl⟩
  case round =>
    obtain ⟨-, rfl, rfl⟩ := hrel
    go_wp2_with fail
    go_ret
    exact ⟨rfl, rfl⟩
theorem putGrams_nil {w : World} {b : Nat} {t : TypeId} {cs : Array Value} (hb : Blk w b t cs) (h : cs[22]? = some (.slice none 0 0)) :
    Calls Tryz.prog 72 #[.pointer (some ⟨b, 0, none⟩)] w fun e w' => e = .returned (.tuple #[]) ∧ w = w' := by
  have c0 := hb.cell 22
  rw [h] at c0
  clear hb h
  go_enter Tryz.func72, Tryz.ntmps72
  go_wp2_with fail
  go_loopg [2] 0 (fun m s wr => m = 0 ∧ s = .int .i64 0 ∧ wr = w)
  case atStart => exact ⟨rfl, rfl, rfl⟩
  case round =>
    obtain ⟨-, rfl, rfl⟩ := hrel
    go_wp2_with fail
    go_end0
    exact ⟨rfl, rfl⟩
theorem growGrams_nil {w : World} {b : Nat} {t : TypeId} {cs : Array Value} (hb : Blk w b t cs) (h : cs[22]? = some (.slice none 0 0)) :
    Calls Tryz.prog 88 #[.pointer (some ⟨b, 0, none⟩)] w fun e w' => e = .returned (.slice none 0 0) ∧ w = w' := by
  have c0 := hb.cell 22
  rw [h] at c0
  clear hb h
  go_enter Tryz.func88, Tryz.ntmps88
  go_wp2_with fail
  go_loopg [3, 4] 0 (fun m s3 s wr => m = 0 ∧ s3 = .slice none 0 0 ∧ s = .int .i64 0 ∧ wr = w)
  case atStart => exact ⟨rfl, rfl, rfl, rfl⟩
  case round =>
    obtain ⟨-, rfl, rfl, rfl⟩ := hrel
    go_wp2_with fail
    go_ret
    exact ⟨rfl, rfl⟩
theorem markedGrams_nil (w : World) : Calls Tryz.prog 106 #[.slice none 0 0] w fun e w' => e = .returned (.bool true) ∧ w = w' := by
  go_enter Tryz.func106, Tryz.ntmps106
  go_wp2_with fail
  go_loopg [3] 0 (fun m s wr => m = 0 ∧ s = .int .i64 0 ∧ wr = w)
  case atStart => exact ⟨rfl, rfl, rfl⟩
  case round =>
    obtain ⟨-, rfl, rfl⟩ := hrel
    go_wp2_with fail
    go_ret
    exact ⟨rfl, rfl⟩
theorem stillSays_nil {w : World} {b : Nat} {t : TypeId} {cs : Array Value} (hb : Blk w b t cs) (h : cs[24]? = some (.slice none 0 0)) :
    Calls Tryz.prog 53 #[.pointer (some ⟨b, 0, none⟩)] w fun e w' => e = .returned (.bool true) ∧ w = w' := by
  have c0 := hb.cell 24
  rw [h] at c0
  clear hb h
  go_enter Tryz.func53, Tryz.ntmps53
  go_wp2_with fail
  go_loopg [3] 0 (fun m s wr => m = 0 ∧ s = .int .i64 0 ∧ wr = w)
  case atStart => exact ⟨rfl, rfl, rfl⟩
  case round =>
    obtain ⟨-, rfl, rfl⟩ := hrel
    go_wp2_with fail
    go_ret
    exact ⟨rfl, rfl⟩
theorem putSays_nil {w : World} {b : Nat} {t : TypeId} {cs : Array Value} (hb : Blk w b t cs) (h : cs[24]? = some (.slice none 0 0)) :
    Calls Tryz.prog 61 #[.pointer (some ⟨b, 0, none⟩)] w fun e w' => e = .returned (.tuple #[]) ∧ w = w' := by
  have c0 := hb.cell 24
  rw [h] at c0
  clear hb h
  go_enter Tryz.func61, Tryz.ntmps61
  go_wp2_with fail
  go_loopg [2] 0 (fun m s wr => m = 0 ∧ s = .int .i64 0 ∧ wr = w)
  case atStart => exact ⟨rfl, rfl, rfl⟩
  case round =>
    obtain ⟨-, rfl, rfl⟩ := hrel
    go_wp2_with fail
    go_end0
    exact ⟨rfl, rfl⟩
theorem growSays_nil {w : World} {b : Nat} {t : TypeId} {cs : Array Value} (hb : Blk w b t cs) (h : cs[24]? = some (.slice none 0 0)) :
    Calls Tryz.prog 89 #[.pointer (some ⟨b, 0, none⟩)] w fun e w' => e = .returned (.slice none 0 0) ∧ w = w' := by
  have c0 := hb.cell 24
  rw [h] at c0
  clear hb h
  go_enter Tryz.func89, Tryz.ntmps89
  go_wp2_with fail
  go_loopg [3, 4] 0 (fun m s3 s wr => m = 0 ∧ s3 = .slice none 0 0 ∧ s = .int .i64 0 ∧ wr = w)
  case atStart => exact ⟨rfl, rfl, rfl, rfl⟩
  case round =>
    obtain ⟨-, rfl, rfl, rfl⟩ := hrel
    go_wp2_with fail
    go_ret
    exact ⟨rfl, rfl⟩
theorem markedSays_nil (w : World) : Calls Tryz.prog 107 #[.slice none 0 0] w fun e w' => e = .returned (.bool true) ∧ w = w' := by
  go_enter Tryz.func107, Tryz.ntmps107
  go_wp2_with fail
  go_loopg [3] 0 (fun m s wr => m = 0 ∧ s = .int .i64 0 ∧ wr = w)
  case atStart => exact ⟨rfl, rfl, rfl⟩
  case round =>
    obtain ⟨-, rfl, rfl⟩ := hrel
    go_wp2_with fail
    go_ret
    exact ⟨rfl, rfl⟩
theorem stillItems_nil {w : World} {b : Nat} {t : TypeId} {cs : Array Value} (hb : Blk w b t cs) (h : cs[26]? = some (.slice none 0 0)) :
    Calls Tryz.prog 54 #[.pointer (some ⟨b, 0, none⟩)] w fun e w' => e = .returned (.bool true) ∧ w = w' := by
  have c0 := hb.cell 26
  rw [h] at c0
  clear hb h
  go_enter Tryz.func54, Tryz.ntmps54
  go_wp2_with fail
  go_loopg [3] 0 (fun m s wr => m = 0 ∧ s = .int .i64 0 ∧ wr = w)
  case atStart => exact ⟨rfl, rfl, rfl⟩
  case round =>
    obtain ⟨-, rfl, rfl⟩ := hrel
    go_wp2_with fail
    go_ret
    exact ⟨rfl, rfl⟩
theorem putItems_nil {w : World} {b : Nat} {t : TypeId} {cs : Array Value} (hb : Blk w b t cs) (h : cs[26]? = some (.slice none 0 0)) :
    Calls Tryz.prog 73 #[.pointer (some ⟨b, 0, none⟩)] w fun e w' => e = .returned (.tuple #[]) ∧ w = w' := by
  have c0 := hb.cell 26
  rw [h] at c0
  clear hb h
  go_enter Tryz.func73, Tryz.ntmps73
  go_wp2_with fail
  go_loopg [2] 0 (fun m s wr => m = 0 ∧ s = .int .i64 0 ∧ wr = w)
  case atStart => exact ⟨rfl, rfl, rfl⟩
  case round =>
    obtain ⟨-, rfl, rfl⟩ := hrel
    go_wp2_with fail
    go_end0
    exact ⟨rfl, rfl⟩
theorem growItems_nil {w : World} {b : Nat} {t : TypeId} {cs : Array Value} (hb : Blk w b t cs) (h : cs[26]? = some (.slice none 0 0)) :
    Calls Tryz.prog 90 #[.pointer (some ⟨b, 0, none⟩)] w fun e w' => e = .returned (.slice none 0 0) ∧ w = w' := by
  have c0 := hb.cell 26
  rw [h] at c0
  clear hb h
  go_enter Tryz.func90, Tryz.ntmps90
  go_wp2_with fail
  go_loopg [3, 4] 0 (fun m s3 s wr => m = 0 ∧ s3 = .slice none 0 0 ∧ s = .int .i64 0 ∧ wr = w)
  case atStart => exact ⟨rfl, rfl, rfl, rfl⟩
  case round =>
    obtain ⟨-, rfl, rfl, rfl⟩ := hrel
    go_wp2_with fail
    go_ret
    exact ⟨rfl, rfl⟩
theorem markedItems_nil (w : World) : Calls Tryz.prog 108 #[.slice none 0 0] w fun e w' => e = .returned (.bool true) ∧ w = w' := by
  go_enter Tryz.func108, Tryz.ntmps108
  go_wp2_with fail
  go_loopg [3] 0 (fun m s wr => m = 0 ∧ s = .int .i64 0 ∧ wr = w)
  case atStart => exact ⟨rfl, rfl, rfl⟩
  case round =>
    obtain ⟨-, rfl, rfl⟩ := hrel
    go_wp2_with fail
    go_ret
    exact ⟨rfl, rfl⟩
theorem stillLines_nil {w : World} {b : Nat} {t : TypeId} {cs : Array Value} (hb : Blk w b t cs) (h : cs[28]? = some (.slice none 0 0)) :
    Calls Tryz.prog 55 #[.pointer (some ⟨b, 0, none⟩)] w fun e w' => e = .returned (.bool true) ∧ w = w' := by
  have c0 := hb.cell 28
  rw [h] at c0
  clear hb h
  go_enter Tryz.func55, Tryz.ntmps55
  go_wp2_with fail
  go_loopg [3] 0 (fun m s wr => m = 0 ∧ s = .int .i64 0 ∧ wr = w)
  case atStart => exact ⟨rfl, rfl, rfl⟩
  case round =>
    obtain ⟨-, rfl, rfl⟩ := hrel
    go_wp2_with fail
    go_ret
    exact ⟨rfl, rfl⟩
theorem putLines_nil {w : World} {b : Nat} {t : TypeId} {cs : Array Value} (hb : Blk w b t cs) (h : cs[28]? = some (.slice none 0 0)) :
    Calls Tryz.prog 74 #[.pointer (some ⟨b, 0, none⟩)] w fun e w' => e = .returned (.tuple #[]) ∧ w = w' := by
  have c0 := hb.cell 28
  rw [h] at c0
  clear hb h
  go_enter Tryz.func74, Tryz.ntmps74
  go_wp2_with fail
  go_loopg [2] 0 (fun m s wr => m = 0 ∧ s = .int .i64 0 ∧ wr = w)
  case atStart => exact ⟨rfl, rfl, rfl⟩
  case round =>
    obtain ⟨-, rfl, rfl⟩ := hrel
    go_wp2_with fail
    go_end0
    exact ⟨rfl, rfl⟩
theorem growLines_nil {w : World} {b : Nat} {t : TypeId} {cs : Array Value} (hb : Blk w b t cs) (h : cs[28]? = some (.slice none 0 0)) :
    Calls Tryz.prog 91 #[.pointer (some ⟨b, 0, none⟩)] w fun e w' => e = .returned (.slice none 0 0) ∧ w = w' := by
  have c0 := hb.cell 28
  rw [h] at c0
  clear hb h
  go_enter Tryz.func91, Tryz.ntmps91
  go_wp2_with fail
  go_loopg [3, 4] 0 (fun m s3 s wr => m = 0 ∧ s3 = .slice none 0 0 ∧ s = .int .i64 0 ∧ wr = w)
  case atStart => exact ⟨rfl, rfl, rfl, rfl⟩
  case round =>
    obtain ⟨-, rfl, rfl, rfl⟩ := hrel
    go_wp2_with fail
    go_ret
    exact ⟨rfl, rfl⟩
theorem markedLines_nil (w : World) : Calls Tryz.prog 109 #[.slice none 0 0] w fun e w' => e = .returned (.bool true) ∧ w = w' := by
  go_enter Tryz.func109, Tryz.ntmps109
  go_wp2_with fail
  go_loopg [3] 0 (fun m s wr => m = 0 ∧ s = .int .i64 0 ∧ wr = w)
  case atStart => exact ⟨rfl, rfl, rfl⟩
  case round =>
    obtain ⟨-, rfl, rfl⟩ := hrel
    go_wp2_with fail
    go_ret
    exact ⟨rfl, rfl⟩
theorem stillSeats_nil {w : World} {b : Nat} {t : TypeId} {cs : Array Value} (hb : Blk w b t cs) (h : cs[30]? = some (.slice none 0 0)) :
    Calls Tryz.prog 56 #[.pointer (some ⟨b, 0, none⟩)] w fun e w' => e = .returned (.bool true) ∧ w = w' := by
  have c0 := hb.cell 30
  rw [h] at c0
  clear hb h
  go_enter Tryz.func56, Tryz.ntmps56
  go_wp2_with fail
  go_loopg [3] 0 (fun m s wr => m = 0 ∧ s = .int .i64 0 ∧ wr = w)
  case atStart => exact ⟨rfl, rfl, rfl⟩
  case round =>
    obtain ⟨-, rfl, rfl⟩ := hrel
    go_wp2_with fail
    go_ret
    exact ⟨rfl, rfl⟩
theorem putSeats_nil {w : World} {b : Nat} {t : TypeId} {cs : Array Value} (hb : Blk w b t cs) (h : cs[30]? = some (.slice none 0 0)) :
    Calls Tryz.prog 75 #[.pointer (some ⟨b, 0, none⟩)] w fun e w' => e = .returned (.tuple #[]) ∧ w = w' := by
  have c0 := hb.cell 30
  rw [h] at c0
  clear hb h
  go_enter Tryz.func75, Tryz.ntmps75
  go_wp2_with fail
  go_loopg [2] 0 (fun m s wr => m = 0 ∧ s = .int .i64 0 ∧ wr = w)
  case atStart => exact ⟨rfl, rfl, rfl⟩
  case round =>
    obtain ⟨-, rfl, rfl⟩ := hrel
    go_wp2_with fail
    go_end0
    exact ⟨rfl, rfl⟩
theorem growSeats_nil {w : World} {b : Nat} {t : TypeId} {cs : Array Value} (hb : Blk w b t cs) (h : cs[30]? = some (.slice none 0 0)) :
    Calls Tryz.prog 92 #[.pointer (some ⟨b, 0, none⟩)] w fun e w' => e = .returned (.slice none 0 0) ∧ w = w' := by
  have c0 := hb.cell 30
  rw [h] at c0
  clear hb h
  go_enter Tryz.func92, Tryz.ntmps92
  go_wp2_with fail
  go_loopg [3, 4] 0 (fun m s3 s wr => m = 0 ∧ s3 = .slice none 0 0 ∧ s = .int .i64 0 ∧ wr = w)
  case atStart => exact ⟨rfl, rfl, rfl, rfl⟩
  case round =>
    obtain ⟨-, rfl, rfl, rfl⟩ := hrel
    go_wp2_with fail
    go_ret
    exact ⟨rfl, rfl⟩
theorem markedSeats_nil (w : World) : Calls Tryz.prog 110 #[.slice none 0 0] w fun e w' => e = .returned (.bool true) ∧ w = w' := by
  go_enter Tryz.func110, Tryz.ntmps110
  go_wp2_with fail
  go_loopg [3] 0 (fun m s wr => m = 0 ∧ s = .int .i64 0 ∧ wr = w)
  case atStart => exact ⟨rfl, rfl, rfl⟩
  case round =>
    obtain ⟨-, rfl, rfl⟩ := hrel
    go_wp2_with fail
    go_ret
    exact ⟨rfl, rfl⟩
theorem stillEvents_nil {w : World} {b : Nat} {t : TypeId} {cs : Array Value} (hb : Blk w b t cs) (h : cs[32]? = some (.slice none 0 0)) :
    Calls Tryz.prog 57 #[.pointer (some ⟨b, 0, none⟩)] w fun e w' => e = .returned (.bool true) ∧ w = w' := by
  have c0 := hb.cell 32
  rw [h] at c0
  clear hb h
  go_enter Tryz.func57, Tryz.ntmps57
  go_wp2_with fail
  go_loopg [3] 0 (fun m s wr => m = 0 ∧ s = .int .i64 0 ∧ wr = w)
  case atStart => exact ⟨rfl, rfl, rfl⟩
  case round =>
    obtain ⟨-, rfl, rfl⟩ := hrel
    go_wp2_with fail
    go_ret
    exact ⟨rfl, rfl⟩
theorem putEvents_nil {w : World} {b : Nat} {t : TypeId} {cs : Array Value} (hb : Blk w b t cs) (h : cs[32]? = some (.slice none 0 0)) :
    Calls Tryz.prog 76 #[.pointer (some ⟨b, 0, none⟩)] w fun e w' => e = .returned (.tuple #[]) ∧ w = w' := by
  have c0 := hb.cell 32
  rw [h] at c0
  clear hb h
  go_enter Tryz.func76, Tryz.ntmps76
  go_wp2_with fail
  go_loopg [2] 0 (fun m s wr => m = 0 ∧ s = .int .i64 0 ∧ wr = w)
  case atStart => exact ⟨rfl, rfl, rfl⟩
  case round =>
    obtain ⟨-, rfl, rfl⟩ := hrel
    go_wp2_with fail
    go_end0
    exact ⟨rfl, rfl⟩
theorem growEvents_nil {w : World} {b : Nat} {t : TypeId} {cs : Array Value} (hb : Blk w b t cs) (h : cs[32]? = some (.slice none 0 0)) :
    Calls Tryz.prog 93 #[.pointer (some ⟨b, 0, none⟩)] w fun e w' => e = .returned (.slice none 0 0) ∧ w = w' := by
  have c0 := hb.cell 32
  rw [h] at c0
  clear hb h
  go_enter Tryz.func93, Tryz.ntmps93
  go_wp2_with fail
  go_loopg [3, 4] 0 (fun m s3 s wr => m = 0 ∧ s3 = .slice none 0 0 ∧ s = .int .i64 0 ∧ wr = w)
  case atStart => exact ⟨rfl, rfl, rfl, rfl⟩
  case round =>
    obtain ⟨-, rfl, rfl, rfl⟩ := hrel
    go_wp2_with fail
    go_ret
    exact ⟨rfl, rfl⟩
theorem markedEvents_nil (w : World) : Calls Tryz.prog 111 #[.slice none 0 0] w fun e w' => e = .returned (.bool true) ∧ w = w' := by
  go_enter Tryz.func111, Tryz.ntmps111
  go_wp2_with fail
  go_loopg [3] 0 (fun m s wr => m = 0 ∧ s = .int .i64 0 ∧ wr = w)
  case atStart => exact ⟨rfl, rfl, rfl⟩
  case round =>
    obtain ⟨-, rfl, rfl⟩ := hrel
    go_wp2_with fail
    go_ret
    exact ⟨rfl, rfl⟩
theorem stillSteps_nil {w : World} {b : Nat} {t : TypeId} {cs : Array Value} (hb : Blk w b t cs) (h : cs[34]? = some (.slice none 0 0)) :
    Calls Tryz.prog 58 #[.pointer (some ⟨b, 0, none⟩)] w fun e w' => e = .returned (.bool true) ∧ w = w' := by
  have c0 := hb.cell 34
  rw [h] at c0
  clear hb h
  go_enter Tryz.func58, Tryz.ntmps58
  go_wp2_with fail
  go_loopg [3] 0 (fun m s wr => m = 0 ∧ s = .int .i64 0 ∧ wr = w)
  case atStart => exact ⟨rfl, rfl, rfl⟩
  case round =>
    obtain ⟨-, rfl, rfl⟩ := hrel
    go_wp2_with fail
    go_ret
    exact ⟨rfl, rfl⟩
theorem putSteps_nil {w : World} {b : Nat} {t : TypeId} {cs : Array Value} (hb : Blk w b t cs) (h : cs[34]? = some (.slice none 0 0)) :
    Calls Tryz.prog 62 #[.pointer (some ⟨b, 0, none⟩)] w fun e w' => e = .returned (.tuple #[]) ∧ w = w' := by
  have c0 := hb.cell 34
  rw [h] at c0
  clear hb h
  go_enter Tryz.func62, Tryz.ntmps62
  go_wp2_with fail
  go_loopg [2] 0 (fun m s wr => m = 0 ∧ s = .int .i64 0 ∧ wr = w)
  case atStart => exact ⟨rfl, rfl, rfl⟩
  case round =>
    obtain ⟨-, rfl, rfl⟩ := hrel
    go_wp2_with fail
    go_end0
    exact ⟨rfl, rfl⟩
theorem growSteps_nil {w : World} {b : Nat} {t : TypeId} {cs : Array Value} (hb : Blk w b t cs) (h : cs[34]? = some (.slice none 0 0)) :
    Calls Tryz.prog 94 #[.pointer (some ⟨b, 0, none⟩)] w fun e w' => e = .returned (.slice none 0 0) ∧ w = w' := by
  have c0 := hb.cell 34
  rw [h] at c0
  clear hb h
  go_enter Tryz.func94, Tryz.ntmps94
  go_wp2_with fail
  go_loopg [3, 4] 0 (fun m s3 s wr => m = 0 ∧ s3 = .slice none 0 0 ∧ s = .int .i64 0 ∧ wr = w)
  case atStart => exact ⟨rfl, rfl, rfl, rfl⟩
  case round =>
    obtain ⟨-, rfl, rfl, rfl⟩ := hrel
    go_wp2_with fail
    go_ret
    exact ⟨rfl, rfl⟩
theorem markedSteps_nil (w : World) : Calls Tryz.prog 112 #[.slice none 0 0] w fun e w' => e = .returned (.bool true) ∧ w = w' := by
  go_enter Tryz.func112, Tryz.ntmps112
  go_wp2_with fail
  go_loopg [3] 0 (fun m s wr => m = 0 ∧ s = .int .i64 0 ∧ wr = w)
  case atStart => exact ⟨rfl, rfl, rfl⟩
  case round =>
    obtain ⟨-, rfl, rfl⟩ := hrel
    go_wp2_with fail
    go_ret
    exact ⟨rfl, rfl⟩
end Go.Proofs.YtfbdbebahpemhaaGreat
