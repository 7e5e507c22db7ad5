/- WRITTEN by wip/gen/bknil.py. The book at kinds of which it holds nothing. The walk of the book's name. -/
import Derived.Test.YtglafpdealjlnaaGreatProg
import Derived.Test.YtglafpdealjlnaaGreatQLib
import Derived.Test.YtglafpdealjlnaaGreatQBkP
namespace Go.Proofs.YtglafpdealjlnaaGreat
open Go.RowKit
set_option linter.unusedSimpArgs false
set_option linter.unusedVariables false
set_option maxRecDepth 100000

theorem stillTexts_nil {w : World} {b : Nat} {t : TypeId} {cs : Array Value} (hb : Blk w b t cs) (h : cs[0]? = some (.slice none 0 0)) :
    Calls Tryz.prog 102 #[.pointer (some ⟨b, 0, none⟩)] w fun e w' => e = .returned (.bool true) ∧ w = w' := by
  have c0 := hb.cell 0
  rw [h] at c0
  clear hb h
  go_enter Tryz.func102, Tryz.ntmps102
  go_wp2_with fail
  go_loopg [3] 0 (fun m s wr => m = 0 ∧ s = .int .i64 0 ∧ wr = w)
  case atStart => exact ⟨rfl, rfl, rfl⟩
  case round =>
    obtain ⟨-, rfl, rfl⟩ := hrel
    go_wp2_with fail
    go_ret
    exact ⟨rfl, rfl⟩
theorem putTexts_nil {w : World} {b : Nat} {t : TypeId} {cs : Array Value} (hb : Blk w b t cs) (h : cs[0]? = some (.slice none 0 0)) :
    Calls Tryz.prog 124 #[.pointer (some ⟨b, 0, none⟩)] w fun e w' => e = .returned (.tuple #[]) ∧ w = w' := by
  have c0 := hb.cell 0
  rw [h] at c0
  clear hb h
  go_enter Tryz.func124, Tryz.ntmps124
  go_wp2_with fail
  go_loopg [2] 0 (fun m s wr => m = 0 ∧ s = .int .i64 0 ∧ wr = w)
  case atStart => exact ⟨rfl, rfl, rfl⟩
  case round =>
    obtain ⟨-, rfl, rfl⟩ := hrel
    go_wp2_with fail
    go_end0
    exact ⟨rfl, rfl⟩
theorem growTexts_nil {w : World} {b : Nat} {t : TypeId} {cs : Array Value} (hb : Blk w b t cs) (h : cs[0]? = some (.slice none 0 0)) :
    Calls Tryz.prog 138 #[.pointer (some ⟨b, 0, none⟩)] w fun e w' => e = .returned (.slice none 0 0) ∧ w = w' := by
  have c0 := hb.cell 0
  rw [h] at c0
  clear hb h
  go_enter Tryz.func138, Tryz.ntmps138
  go_wp2_with fail
  go_loopg [3, 4] 0 (fun m s3 s wr => m = 0 ∧ s3 = .slice none 0 0 ∧ s = .int .i64 0 ∧ wr = w)
  case atStart => exact ⟨rfl, rfl, rfl, rfl⟩
  case round =>
    obtain ⟨-, rfl, rfl, rfl⟩ := hrel
    go_wp2_with fail
    go_ret
    exact ⟨rfl, rfl⟩
theorem markedTexts_nil (w : World) : Calls Tryz.prog 156 #[.slice none 0 0] w fun e w' => e = .returned (.bool true) ∧ w = w' := by
  go_enter Tryz.func156, Tryz.ntmps156
  go_wp2_with fail
  go_loopg [3] 0 (fun m s wr => m = 0 ∧ s = .int .i64 0 ∧ wr = w)
  case atStart => exact ⟨rfl, rfl, rfl⟩
  case round =>
    obtain ⟨-, rfl, rfl⟩ := hrel
    go_wp2_with fail
    go_ret
    exact ⟨rfl, rfl⟩
theorem stillInts_nil {w : World} {b : Nat} {t : TypeId} {cs : Array Value} (hb : Blk w b t cs) (h : cs[2]? = some (.slice none 0 0)) :
    Calls Tryz.prog 103 #[.pointer (some ⟨b, 0, none⟩)] w fun e w' => e = .returned (.bool true) ∧ w = w' := by
  have c0 := hb.cell 2
  rw [h] at c0
  clear hb h
  go_enter Tryz.func103, Tryz.ntmps103
  go_wp2_with fail
  go_loopg [3] 0 (fun m s wr => m = 0 ∧ s = .int .i64 0 ∧ wr = w)
  case atStart => exact ⟨rfl, rfl, rfl⟩
  case round =>
    obtain ⟨-, rfl, rfl⟩ := hrel
    go_wp2_with fail
    go_ret
    exact ⟨rfl, rfl⟩
theorem putInts_nil {w : World} {b : Nat} {t : TypeId} {cs : Array Value} (hb : Blk w b t cs) (h : cs[2]? = some (.slice none 0 0)) :
    Calls Tryz.prog 125 #[.pointer (some ⟨b, 0, none⟩)] w fun e w' => e = .returned (.tuple #[]) ∧ w = w' := by
  have c0 := hb.cell 2
  rw [h] at c0
  clear hb h
  go_enter Tryz.func125, Tryz.ntmps125
  go_wp2_with fail
  go_loopg [2] 0 (fun m s wr => m = 0 ∧ s = .int .i64 0 ∧ wr = w)
  case atStart => exact ⟨rfl, rfl, rfl⟩
  case round =>
    obtain ⟨-, rfl, rfl⟩ := hrel
    go_wp2_with fail
    go_end0
    exact ⟨rfl, rfl⟩
theorem growInts_nil {w : World} {b : Nat} {t : TypeId} {cs : Array Value} (hb : Blk w b t cs) (h : cs[2]? = some (.slice none 0 0)) :
    Calls Tryz.prog 139 #[.pointer (some ⟨b, 0, none⟩)] w fun e w' => e = .returned (.slice none 0 0) ∧ w = w' := by
  have c0 := hb.cell 2
  rw [h] at c0
  clear hb h
  go_enter Tryz.func139, Tryz.ntmps139
  go_wp2_with fail
  go_loopg [3, 4] 0 (fun m s3 s wr => m = 0 ∧ s3 = .slice none 0 0 ∧ s = .int .i64 0 ∧ wr = w)
  case atStart => exact ⟨rfl, rfl, rfl, rfl⟩
  case round =>
    obtain ⟨-, rfl, rfl, rfl⟩ := hrel
    go_wp2_with fail
    go_ret
    exact ⟨rfl, rfl⟩
theorem markedInts_nil (w : World) : Calls Tryz.prog 157 #[.slice none 0 0] w fun e w' => e = .returned (.bool true) ∧ w = w' := by
  go_enter Tryz.func157, Tryz.ntmps157
  go_wp2_with fail
  go_loopg [3] 0 (fun m s wr => m = 0 ∧ s = .int .i64 0 ∧ wr = w)
  case atStart => exact ⟨rfl, rfl, rfl⟩
  case round =>
    obtain ⟨-, rfl, rfl⟩ := hrel
    go_wp2_with fail
    go_ret
    exact ⟨rfl, rfl⟩
theorem stillEthers_nil {w : World} {b : Nat} {t : TypeId} {cs : Array Value} (hb : Blk w b t cs) (h : cs[4]? = some (.slice none 0 0)) :
    Calls Tryz.prog 104 #[.pointer (some ⟨b, 0, none⟩)] w fun e w' => e = .returned (.bool true) ∧ w = w' := by
  have c0 := hb.cell 4
  rw [h] at c0
  clear hb h
  go_enter Tryz.func104, Tryz.ntmps104
  go_wp2_with fail
  go_loopg [3] 0 (fun m s wr => m = 0 ∧ s = .int .i64 0 ∧ wr = w)
  case atStart => exact ⟨rfl, rfl, rfl⟩
  case round =>
    obtain ⟨-, rfl, rfl⟩ := hrel
    go_wp2_with fail
    go_ret
    exact ⟨rfl, rfl⟩
theorem putEthers_nil {w : World} {b : Nat} {t : TypeId} {cs : Array Value} (hb : Blk w b t cs) (h : cs[4]? = some (.slice none 0 0)) :
    Calls Tryz.prog 126 #[.pointer (some ⟨b, 0, none⟩)] w fun e w' => e = .returned (.tuple #[]) ∧ w = w' := by
  have c0 := hb.cell 4
  rw [h] at c0
  clear hb h
  go_enter Tryz.func126, Tryz.ntmps126
  go_wp2_with fail
  go_loopg [2] 0 (fun m s wr => m = 0 ∧ s = .int .i64 0 ∧ wr = w)
  case atStart => exact ⟨rfl, rfl, rfl⟩
  case round =>
    obtain ⟨-, rfl, rfl⟩ := hrel
    go_wp2_with fail
    go_end0
    exact ⟨rfl, rfl⟩
theorem growEthers_nil {w : World} {b : Nat} {t : TypeId} {cs : Array Value} (hb : Blk w b t cs) (h : cs[4]? = some (.slice none 0 0)) :
    Calls Tryz.prog 140 #[.pointer (some ⟨b, 0, none⟩)] w fun e w' => e = .returned (.slice none 0 0) ∧ w = w' := by
  have c0 := hb.cell 4
  rw [h] at c0
  clear hb h
  go_enter Tryz.func140, Tryz.ntmps140
  go_wp2_with fail
  go_loopg [3, 4] 0 (fun m s3 s wr => m = 0 ∧ s3 = .slice none 0 0 ∧ s = .int .i64 0 ∧ wr = w)
  case atStart => exact ⟨rfl, rfl, rfl, rfl⟩
  case round =>
    obtain ⟨-, rfl, rfl, rfl⟩ := hrel
    go_wp2_with fail
    go_ret
    exact ⟨rfl, rfl⟩
theorem markedEthers_nil (w : World) : Calls Tryz.prog 158 #[.slice none 0 0] w fun e w' => e = .returned (.bool true) ∧ w = w' := by
  go_enter Tryz.func158, Tryz.ntmps158
  go_wp2_with fail
  go_loopg [3] 0 (fun m s wr => m = 0 ∧ s = .int .i64 0 ∧ wr = w)
  case atStart => exact ⟨rfl, rfl, rfl⟩
  case round =>
    obtain ⟨-, rfl, rfl⟩ := hrel
    go_wp2_with fail
    go_ret
    exact ⟨rfl, rfl⟩
theorem stillTags_nil {w : World} {b : Nat} {t : TypeId} {cs : Array Value} (hb : Blk w b t cs) (h : cs[6]? = some (.slice none 0 0)) :
    Calls Tryz.prog 105 #[.pointer (some ⟨b, 0, none⟩)] w fun e w' => e = .returned (.bool true) ∧ w = w' := by
  have c0 := hb.cell 6
  rw [h] at c0
  clear hb h
  go_enter Tryz.func105, Tryz.ntmps105
  go_wp2_with fail
  go_loopg [3] 0 (fun m s wr => m = 0 ∧ s = .int .i64 0 ∧ wr = w)
  case atStart => exact ⟨rfl, rfl, rfl⟩
  case round =>
    obtain ⟨-, rfl, rfl⟩ := hrel
    go_wp2_with fail
    go_ret
    exact ⟨rfl, rfl⟩
theorem putTags_nil {w : World} {b : Nat} {t : TypeId} {cs : Array Value} (hb : Blk w b t cs) (h : cs[6]? = some (.slice none 0 0)) :
    Calls Tryz.prog 127 #[.pointer (some ⟨b, 0, none⟩)] w fun e w' => e = .returned (.tuple #[]) ∧ w = w' := by
  have c0 := hb.cell 6
  rw [h] at c0
  clear hb h
  go_enter Tryz.func127, Tryz.ntmps127
  go_wp2_with fail
  go_loopg [2] 0 (fun m s wr => m = 0 ∧ s = .int .i64 0 ∧ wr = w)
  case atStart => exact ⟨rfl, rfl, rfl⟩
  case round =>
    obtain ⟨-, rfl, rfl⟩ := hrel
    go_wp2_with fail
    go_end0
    exact ⟨rfl, rfl⟩
theorem growTags_nil {w : World} {b : Nat} {t : TypeId} {cs : Array Value} (hb : Blk w b t cs) (h : cs[6]? = some (.slice none 0 0)) :
    Calls Tryz.prog 141 #[.pointer (some ⟨b, 0, none⟩)] w fun e w' => e = .returned (.slice none 0 0) ∧ w = w' := by
  have c0 := hb.cell 6
  rw [h] at c0
  clear hb h
  go_enter Tryz.func141, Tryz.ntmps141
  go_wp2_with fail
  go_loopg [3, 4] 0 (fun m s3 s wr => m = 0 ∧ s3 = .slice none 0 0 ∧ s = .int .i64 0 ∧ wr = w)
  case atStart => exact ⟨rfl, rfl, rfl, rfl⟩
  case round =>
    obtain ⟨-, rfl, rfl, rfl⟩ := hrel
    go_wp2_with fail
    go_ret
    exact ⟨rfl, rfl⟩
theorem markedTags_nil (w : World) : Calls Tryz.prog 159 #[.slice none 0 0] w fun e w' => e = .returned (.bool true) ∧ w = w' := by
  go_enter Tryz.func159, Tryz.ntmps159
  go_wp2_with fail
  go_loopg [3] 0 (fun m s wr => m = 0 ∧ s = .int .i64 0 ∧ wr = w)
  case atStart => exact ⟨rfl, rfl, rfl⟩
  case round =>
    obtain ⟨-, rfl, rfl⟩ := hrel
    go_wp2_with fail
    go_ret
    exact ⟨rfl, rfl⟩
theorem stillOptions_nil {w : World} {b : Nat} {t : TypeId} {cs : Array Value} (hb : Blk w b t cs) (h : cs[8]? = some (.slice none 0 0)) :
    Calls Tryz.prog 106 #[.pointer (some ⟨b, 0, none⟩)] w fun e w' => e = .returned (.bool true) ∧ w = w' := by
  have c0 := hb.cell 8
  rw [h] at c0
  clear hb h
  go_enter Tryz.func106, Tryz.ntmps106
  go_wp2_with fail
  go_loopg [3] 0 (fun m s wr => m = 0 ∧ s = .int .i64 0 ∧ wr = w)
  case atStart => exact ⟨rfl, rfl, rfl⟩
  case round =>
    obtain ⟨-, rfl, rfl⟩ := hrel
    go_wp2_with fail
    go_ret
    exact ⟨rfl, rfl⟩
theorem putOptions_nil {w : World} {b : Nat} {t : TypeId} {cs : Array Value} (hb : Blk w b t cs) (h : cs[8]? = some (.slice none 0 0)) :
    Calls Tryz.prog 128 #[.pointer (some ⟨b, 0, none⟩)] w fun e w' => e = .returned (.tuple #[]) ∧ w = w' := by
  have c0 := hb.cell 8
  rw [h] at c0
  clear hb h
  go_enter Tryz.func128, Tryz.ntmps128
  go_wp2_with fail
  go_loopg [2] 0 (fun m s wr => m = 0 ∧ s = .int .i64 0 ∧ wr = w)
  case atStart => exact ⟨rfl, rfl, rfl⟩
  case round =>
    obtain ⟨-, rfl, rfl⟩ := hrel
    go_wp2_with fail
    go_end0
    exact ⟨rfl, rfl⟩
theorem growOptions_nil {w : World} {b : Nat} {t : TypeId} {cs : Array Value} (hb : Blk w b t cs) (h : cs[8]? = some (.slice none 0 0)) :
    Calls Tryz.prog 142 #[.pointer (some ⟨b, 0, none⟩)] w fun e w' => e = .returned (.slice none 0 0) ∧ w = w' := by
  have c0 := hb.cell 8
  rw [h] at c0
  clear hb h
  go_enter Tryz.func142, Tryz.ntmps142
  go_wp2_with fail
  go_loopg [3, 4] 0 (fun m s3 s wr => m = 0 ∧ s3 = .slice none 0 0 ∧ s = .int .i64 0 ∧ wr = w)
  case atStart => exact ⟨rfl, rfl, rfl, rfl⟩
  case round =>
    obtain ⟨-, rfl, rfl, rfl⟩ := hrel
    go_wp2_with fail
    go_ret
    exact ⟨rfl, rfl⟩
theorem markedOptions_nil (w : World) : Calls Tryz.prog 160 #[.slice none 0 0] w fun e w' => e = .returned (.bool true) ∧ w = w' := by
  go_enter Tryz.func160, Tryz.ntmps160
  go_wp2_with fail
  go_loopg [3] 0 (fun m s wr => m = 0 ∧ s = .int .i64 0 ∧ wr = w)
  case atStart => exact ⟨rfl, rfl, rfl⟩
  case round =>
    obtain ⟨-, rfl, rfl⟩ := hrel
    go_wp2_with fail
    go_ret
    exact ⟨rfl, rfl⟩
theorem stillPackets_nil {w : World} {b : Nat} {t : TypeId} {cs : Array Value} (hb : Blk w b t cs) (h : cs[10]? = some (.slice none 0 0)) :
    Calls Tryz.prog 107 #[.pointer (some ⟨b, 0, none⟩)] w fun e w' => e = .returned (.bool true) ∧ w = w' := by
  have c0 := hb.cell 10
  rw [h] at c0
  clear hb h
  go_enter Tryz.func107, Tryz.ntmps107
  go_wp2_with fail
  go_loopg [3] 0 (fun m s wr => m = 0 ∧ s = .int .i64 0 ∧ wr = w)
  case atStart => exact ⟨rfl, rfl, rfl⟩
  case round =>
    obtain ⟨-, rfl, rfl⟩ := hrel
    go_wp2_with fail
    go_ret
    exact ⟨rfl, rfl⟩
theorem putPackets_nil {w : World} {b : Nat} {t : TypeId} {cs : Array Value} (hb : Blk w b t cs) (h : cs[10]? = some (.slice none 0 0)) :
    Calls Tryz.prog 120 #[.pointer (some ⟨b, 0, none⟩)] w fun e w' => e = .returned (.tuple #[]) ∧ w = w' := by
  have c0 := hb.cell 10
  rw [h] at c0
  clear hb h
  go_enter Tryz.func120, Tryz.ntmps120
  go_wp2_with fail
  go_loopg [2] 0 (fun m s wr => m = 0 ∧ s = .int .i64 0 ∧ wr = w)
  case atStart => exact ⟨rfl, rfl, rfl⟩
  case round =>
    obtain ⟨-, rfl, rfl⟩ := hrel
    go_wp2_with fail
    go_end0
    exact ⟨rfl, rfl⟩
theorem growPackets_nil {w : World} {b : Nat} {t : TypeId} {cs : Array Value} (hb : Blk w b t cs) (h : cs[10]? = some (.slice none 0 0)) :
    Calls Tryz.prog 143 #[.pointer (some ⟨b, 0, none⟩)] w fun e w' => e = .returned (.slice none 0 0) ∧ w = w' := by
  have c0 := hb.cell 10
  rw [h] at c0
  clear hb h
  go_enter Tryz.func143, Tryz.ntmps143
  go_wp2_with fail
  go_loopg [3, 4] 0 (fun m s3 s wr => m = 0 ∧ s3 = .slice none 0 0 ∧ s = .int .i64 0 ∧ wr = w)
  case atStart => exact ⟨rfl, rfl, rfl, rfl⟩
  case round =>
    obtain ⟨-, rfl, rfl, rfl⟩ := hrel
    go_wp2_with fail
    go_ret
    exact ⟨rfl, rfl⟩
theorem markedPackets_nil (w : World) : Calls Tryz.prog 161 #[.slice none 0 0] w fun e w' => e = .returned (.bool true) ∧ w = w' := by
  go_enter Tryz.func161, Tryz.ntmps161
  go_wp2_with fail
  go_loopg [3] 0 (fun m s wr => m = 0 ∧ s = .int .i64 0 ∧ wr = w)
  case atStart => exact ⟨rfl, rfl, rfl⟩
  case round =>
    obtain ⟨-, rfl, rfl⟩ := hrel
    go_wp2_with fail
    go_ret
    exact ⟨rfl, rfl⟩
theorem stillAvps_nil {w : World} {b : Nat} {t : TypeId} {cs : Array Value} (hb : Blk w b t cs) (h : cs[12]? = some (.slice none 0 0)) :
    Calls Tryz.prog 108 #[.pointer (some ⟨b, 0, none⟩)] w fun e w' => e = .returned (.bool true) ∧ w = w' := by
  have c0 := hb.cell 12
  rw [h] at c0
  clear hb h
  go_enter Tryz.func108, Tryz.ntmps108
  go_wp2_with fail
  go_loopg [3] 0 (fun m s wr => m = 0 ∧ s = .int .i64 0 ∧ wr = w)
  case atStart => exact ⟨rfl, rfl, rfl⟩
  case round =>
    obtain ⟨-, rfl, rfl⟩ := hrel
    go_wp2_with fail
    go_ret
    exact ⟨rfl, rfl⟩
theorem putAvps_nil {w : World} {b : Nat} {t : TypeId} {cs : Array Value} (hb : Blk w b t cs) (h : cs[12]? = some (.slice none 0 0)) :
    Calls Tryz.prog 129 #[.pointer (some ⟨b, 0, none⟩)] w fun e w' => e = .returned (.tuple #[]) ∧ w = w' := by
  have c0 := hb.cell 12
  rw [h] at c0
  clear hb h
  go_enter Tryz.func129, Tryz.ntmps129
  go_wp2_with fail
  go_loopg [2] 0 (fun m s wr => m = 0 ∧ s = .int .i64 0 ∧ wr = w)
  case atStart => exact ⟨rfl, rfl, rfl⟩
  case round =>
    obtain ⟨-, rfl, rfl⟩ := hrel
    go_wp2_with fail
    go_end0
    exact ⟨rfl, rfl⟩
theorem growAvps_nil {w : World} {b : Nat} {t : TypeId} {cs : Array Value} (hb : Blk w b t cs) (h : cs[12]? = some (.slice none 0 0)) :
    Calls Tryz.prog 144 #[.pointer (some ⟨b, 0, none⟩)] w fun e w' => e = .returned (.slice none 0 0) ∧ w = w' := by
  have c0 := hb.cell 12
  rw [h] at c0
  clear hb h
  go_enter Tryz.func144, Tryz.ntmps144
  go_wp2_with fail
  go_loopg [3, 4] 0 (fun m s3 s wr => m = 0 ∧ s3 = .slice none 0 0 ∧ s = .int .i64 0 ∧ wr = w)
  case atStart => exact ⟨rfl, rfl, rfl, rfl⟩
  case round =>
    obtain ⟨-, rfl, rfl, rfl⟩ := hrel
    go_wp2_with fail
    go_ret
    exact ⟨rfl, rfl⟩
theorem markedAvps_nil (w : World) : Calls Tryz.prog 162 #[.slice none 0 0] w fun e w' => e = .returned (.bool true) ∧ w = w' := by
  go_enter Tryz.func162, Tryz.ntmps162
  go_wp2_with fail
  go_loopg [3] 0 (fun m s wr => m = 0 ∧ s = .int .i64 0 ∧ wr = w)
  case atStart => exact ⟨rfl, rfl, rfl⟩
  case round =>
    obtain ⟨-, rfl, rfl⟩ := hrel
    go_wp2_with fail
    go_ret
    exact ⟨rfl, rfl⟩
theorem stillCtls_nil {w : World} {b : Nat} {t : TypeId} {cs : Array Value} (hb : Blk w b t cs) (h : cs[14]? = some (.slice none 0 0)) :
    Calls Tryz.prog 109 #[.pointer (some ⟨b, 0, none⟩)] w fun e w' => e = .returned (.bool true) ∧ w = w' := by
  have c0 := hb.cell 14
  rw [h] at c0
  clear hb h
  go_enter Tryz.func109, Tryz.ntmps109
  go_wp2_with fail
  go_loopg [3] 0 (fun m s wr => m = 0 ∧ s = .int .i64 0 ∧ wr = w)
  case atStart => exact ⟨rfl, rfl, rfl⟩
  case round =>
    obtain ⟨-, rfl, rfl⟩ := hrel
    go_wp2_with fail
    go_ret
    exact ⟨rfl, rfl⟩
theorem putCtls_nil {w : World} {b : Nat} {t : TypeId} {cs : Array Value} (hb : Blk w b t cs) (h : cs[14]? = some (.slice none 0 0)) :
    Calls Tryz.prog 121 #[.pointer (some ⟨b, 0, none⟩)] w fun e w' => e = .returned (.tuple #[]) ∧ w = w' := by
  have c0 := hb.cell 14
  rw [h] at c0
  clear hb h
  go_enter Tryz.func121, Tryz.ntmps121
  go_wp2_with fail
  go_loopg [2] 0 (fun m s wr => m = 0 ∧ s = .int .i64 0 ∧ wr = w)
  case atStart => exact ⟨rfl, rfl, rfl⟩
  case round =>
    obtain ⟨-, rfl, rfl⟩ := hrel
    go_wp2_with fail
    go_end0
    exact ⟨rfl, rfl⟩
theorem growCtls_nil {w : World} {b : Nat} {t : TypeId} {cs : Array Value} (hb : Blk w b t cs) (h : cs[14]? = some (.slice none 0 0)) :
    Calls Tryz.prog 145 #[.pointer (some ⟨b, 0, none⟩)] w fun e w' => e = .returned (.slice none 0 0) ∧ w = w' := by
  have c0 := hb.cell 14
  rw [h] at c0
  clear hb h
  go_enter Tryz.func145, Tryz.ntmps145
  go_wp2_with fail
  go_loopg [3, 4] 0 (fun m s3 s wr => m = 0 ∧ s3 = .slice none 0 0 ∧ s = .int .i64 0 ∧ wr = w)
  case atStart => exact ⟨rfl, rfl, rfl, rfl⟩
  case round =>
    obtain ⟨-, rfl, rfl, rfl⟩ := hrel
    go_wp2_with fail
    go_ret
    exact ⟨rfl, rfl⟩
theorem markedCtls_nil (w : World) : Calls Tryz.prog 163 #[.slice none 0 0] w fun e w' => e = .returned (.bool true) ∧ w = w' := by
  go_enter Tryz.func163, Tryz.ntmps163
  go_wp2_with fail
  go_loopg [3] 0 (fun m s wr => m = 0 ∧ s = .int .i64 0 ∧ wr = w)
  case atStart => exact ⟨rfl, rfl, rfl⟩
  case round =>
    obtain ⟨-, rfl, rfl⟩ := hrel
    go_wp2_with fail
    go_ret
    exact ⟨rfl, rfl⟩
theorem stillKeys_nil {w : World} {b : Nat} {t : TypeId} {cs : Array Value} (hb : Blk w b t cs) (h : cs[16]? = some (.slice none 0 0)) :
    Calls Tryz.prog 110 #[.pointer (some ⟨b, 0, none⟩)] w fun e w' => e = .returned (.bool true) ∧ w = w' := by
  have c0 := hb.cell 16
  rw [h] at c0
  clear hb h
  go_enter Tryz.func110, Tryz.ntmps110
  go_wp2_with fail
  go_loopg [3] 0 (fun m s wr => m = 0 ∧ s = .int .i64 0 ∧ wr = w)
  case atStart => exact ⟨rfl, rfl, rfl⟩
  case round =>
    obtain ⟨-, rfl, rfl⟩ := hrel
    go_wp2_with fail
    go_ret
    exact ⟨rfl, rfl⟩
theorem putKeys_nil {w : World} {b : Nat} {t : TypeId} {cs : Array Value} (hb : Blk w b t cs) (h : cs[16]? = some (.slice none 0 0)) :
    Calls Tryz.prog 130 #[.pointer (some ⟨b, 0, none⟩)] w fun e w' => e = .returned (.tuple #[]) ∧ w = w' := by
  have c0 := hb.cell 16
  rw [h] at c0
  clear hb h
  go_enter Tryz.func130, Tryz.ntmps130
  go_wp2_with fail
  go_loopg [2] 0 (fun m s wr => m = 0 ∧ s = .int .i64 0 ∧ wr = w)
  case atStart => exact ⟨rfl, rfl, rfl⟩
  case round =>
    obtain ⟨-, rfl, rfl⟩ := hrel
    go_wp2_with fail
    go_end0
    exact ⟨rfl, rfl⟩
theorem growKeys_nil {w : World} {b : Nat} {t : TypeId} {cs : Array Value} (hb : Blk w b t cs) (h : cs[16]? = some (.slice none 0 0)) :
    Calls Tryz.prog 146 #[.pointer (some ⟨b, 0, none⟩)] w fun e w' => e = .returned (.slice none 0 0) ∧ w = w' := by
  have c0 := hb.cell 16
  rw [h] at c0
  clear hb h
  go_enter Tryz.func146, Tryz.ntmps146
  go_wp2_with fail
  go_loopg [3, 4] 0 (fun m s3 s wr => m = 0 ∧ s3 = .slice none 0 0 ∧ s = .int .i64 0 ∧ wr = w)
  case atStart => exact ⟨rfl, rfl, rfl, rfl⟩
  case round =>
    obtain ⟨-, rfl, rfl, rfl⟩ := hrel
    go_wp2_with fail
    go_ret
    exact ⟨rfl, rfl⟩
theorem markedKeys_nil (w : World) : Calls Tryz.prog 164 #[.slice none 0 0] w fun e w' => e = .returned (.bool true) ∧ w = w' := by
  go_enter Tryz.func164, Tryz.ntmps164
  go_wp2_with fail
  go_loopg [3] 0 (fun m s wr => m = 0 ∧ s = .int .i64 0 ∧ wr = w)
  case atStart => exact ⟨rfl, rfl, rfl⟩
  case round =>
    obtain ⟨-, rfl, rfl⟩ := hrel
    go_wp2_with fail
    go_ret
    exact ⟨rfl, rfl⟩
theorem stillSessions_nil {w : World} {b : Nat} {t : TypeId} {cs : Array Value} (hb : Blk w b t cs) (h : cs[18]? = some (.slice none 0 0)) :
    Calls Tryz.prog 111 #[.pointer (some ⟨b, 0, none⟩)] w fun e w' => e = .returned (.bool true) ∧ w = w' := by
  have c0 := hb.cell 18
  rw [h] at c0
  clear hb h
  go_enter Tryz.func111, Tryz.ntmps111
  go_wp2_with fail
  go_loopg [3] 0 (fun m s wr => m = 0 ∧ s = .int .i64 0 ∧ wr = w)
  case atStart => exact ⟨rfl, rfl, rfl⟩
  case round =>
    obtain ⟨-, rfl, rfl⟩ := hrel
    go_wp2_with fail
    go_ret
    exact ⟨rfl, rfl⟩
theorem putSessions_nil {w : World} {b : Nat} {t : TypeId} {cs : Array Value} (hb : Blk w b t cs) (h : cs[18]? = some (.slice none 0 0)) :
    Calls Tryz.prog 131 #[.pointer (some ⟨b, 0, none⟩)] w fun e w' => e = .returned (.tuple #[]) ∧ w = w' := by
  have c0 := hb.cell 18
  rw [h] at c0
  clear hb h
  go_enter Tryz.func131, Tryz.ntmps131
  go_wp2_with fail
  go_loopg [2] 0 (fun m s wr => m = 0 ∧ s = .int .i64 0 ∧ wr = w)
  case atStart => exact ⟨rfl, rfl, rfl⟩
  case round =>
    obtain ⟨-, rfl, rfl⟩ := hrel
    go_wp2_with fail
    go_end0
    exact ⟨rfl, rfl⟩
theorem growSessions_nil {w : World} {b : Nat} {t : TypeId} {cs : Array Value} (hb : Blk w b t cs) (h : cs[18]? = some (.slice none 0 0)) :
    Calls Tryz.prog 147 #[.pointer (some ⟨b, 0, none⟩)] w fun e w' => e = .returned (.slice none 0 0) ∧ w = w' := by
  have c0 := hb.cell 18
  rw [h] at c0
  clear hb h
  go_enter Tryz.func147, Tryz.ntmps147
  go_wp2_with fail
  go_loopg [3, 4] 0 (fun m s3 s wr => m = 0 ∧ s3 = .slice none 0 0 ∧ s = .int .i64 0 ∧ wr = w)
  case atStart => exact ⟨rfl, rfl, rfl, rfl⟩
  case round =>
    obtain ⟨-, rfl, rfl, rfl⟩ := hrel
    go_wp2_with fail
    go_ret
    exact ⟨rfl, rfl⟩
theorem markedSessions_nil (w : World) : Calls Tryz.prog 165 #[.slice none 0 0] w fun e w' => e = .returned (.bool true) ∧ w = w' := by
  go_enter Tryz.func165, Tryz.ntmps165
  go_wp2_with fail
  go_loopg [3] 0 (fun m s wr => m = 0 ∧ s = .int .i64 0 ∧ wr = w)
  case atStart => exact ⟨rfl, rfl, rfl⟩
  case round =>
    obtain ⟨-, rfl, rfl⟩ := hrel
    go_wp2_with fail
    go_ret
    exact ⟨rfl, rfl⟩
theorem stillIds_nil {w : World} {b : Nat} {t : TypeId} {cs : Array Value} (hb : Blk w b t cs) (h : cs[20]? = some (.slice none 0 0)) :
    Calls Tryz.prog 112 #[.pointer (some ⟨b, 0, none⟩)] w fun e w' => e = .returned (.bool true) ∧ w = w' := by
  have c0 := hb.cell 20
  rw [h] at c0
  clear hb h
  go_enter Tryz.func112, Tryz.ntmps112
  go_wp2_with fail
  go_loopg [3] 0 (fun m s wr => m = 0 ∧ s = .int .i64 0 ∧ wr = w)
  case atStart => exact ⟨rfl, rfl, rfl⟩
  case round =>
    obtain ⟨-, rfl, rfl⟩ := hrel
    go_wp2_with fail
    go_ret
    exact ⟨rfl, rfl⟩
theorem putIds_nil {w : World} {b : Nat} {t : TypeId} {cs : Array Value} (hb : Blk w b t cs) (h : cs[20]? = some (.slice none 0 0)) :
    Calls Tryz.prog 132 #[.pointer (some ⟨b, 0, none⟩)] w fun e w' => e = .returned (.tuple #[]) ∧ w = w' := by
  have c0 := hb.cell 20
  rw [h] at c0
  clear hb h
  go_enter Tryz.func132, Tryz.ntmps132
  go_wp2_with fail
  go_loopg [2] 0 (fun m s wr => m = 0 ∧ s = .int .i64 0 ∧ wr = w)
  case atStart => exact ⟨rfl, rfl, rfl⟩
  case round =>
    obtain ⟨-, rfl, rfl⟩ := hrel
    go_wp2_with fail
    go_end0
    exact ⟨rfl, rfl⟩
theorem growIds_nil {w : World} {b : Nat} {t : TypeId} {cs : Array Value} (hb : Blk w b t cs) (h : cs[20]? = some (.slice none 0 0)) :
    Calls Tryz.prog 148 #[.pointer (some ⟨b, 0, none⟩)] w fun e w' => e = .returned (.slice none 0 0) ∧ w = w' := by
  have c0 := hb.cell 20
  rw [h] at c0
  clear hb h
  go_enter Tryz.func148, Tryz.ntmps148
  go_wp2_with fail
  go_loopg [3, 4] 0 (fun m s3 s wr => m = 0 ∧ s3 = .slice none 0 0 ∧ s = .int .i64 0 ∧ wr = w)
  case atStart => exact ⟨rfl, rfl, rfl, rfl⟩
  case round =>
    obtain ⟨-, rfl, rfl, rfl⟩ := hrel
    go_wp2_with fail
    go_ret
    exact ⟨rfl, rfl⟩
theorem markedIds_nil (w : World) : Calls Tryz.prog 166 #[.slice none 0 0] w fun e w' => e = .returned (.bool true) ∧ w = w' := by
  go_enter Tryz.func166, Tryz.ntmps166
  go_wp2_with fail
  go_loopg [3] 0 (fun m s wr => m = 0 ∧ s = .int .i64 0 ∧ wr = w)
  case atStart => exact ⟨rfl, rfl, rfl⟩
  case round =>
    obtain ⟨-, rfl, rfl⟩ := hrel
    go_wp2_with fail
    go_ret
    exact ⟨rfl, rfl⟩
theorem stillGrams_nil {w : World} {b : Nat} {t : TypeId} {cs : Array Value} (hb : Blk w b t cs) (h : cs[22]? = some (.slice none 0 0)) :
    Calls Tryz.prog 113 #[.pointer (some ⟨b, 0, none⟩)] w fun e w' => e = .returned (.bool true) ∧ w = w' := by
  have c0 := hb.cell 22
  rw [h] at c0
  clear hb h
  go_enter Tryz.func113, Tryz.ntmps113
  go_wp2_with fail
  go_loopg [3] 0 (fun m s wr => m = 0 ∧ s = .int .i64 0 ∧ wr = w)
  case atStart => exact ⟨rfl, rfl, rfl⟩
  case round =>
    obtain ⟨-, rfl, rfl⟩ := hrel
    go_wp2_with fail
    go_ret
    exact ⟨rfl, rfl⟩
theorem putGrams_nil {w : World} {b : Nat} {t : TypeId} {cs : Array Value} (hb : Blk w b t cs) (h : cs[22]? = some (.slice none 0 0)) :
    Calls Tryz.prog 133 #[.pointer (some ⟨b, 0, none⟩)] w fun e w' => e = .returned (.tuple #[]) ∧ w = w' := by
  have c0 := hb.cell 22
  rw [h] at c0
  clear hb h
  go_enter Tryz.func133, Tryz.ntmps133
  go_wp2_with fail
  go_loopg [2] 0 (fun m s wr => m = 0 ∧ s = .int .i64 0 ∧ wr = w)
  case atStart => exact ⟨rfl, rfl, rfl⟩
  case round =>
    obtain ⟨-, rfl, rfl⟩ := hrel
    go_wp2_with fail
    go_end0
    exact ⟨rfl, rfl⟩
theorem growGrams_nil {w : World} {b : Nat} {t : TypeId} {cs : Array Value} (hb : Blk w b t cs) (h : cs[22]? = some (.slice none 0 0)) :
    Calls Tryz.prog 149 #[.pointer (some ⟨b, 0, none⟩)] w fun e w' => e = .returned (.slice none 0 0) ∧ w = w' := by
  have c0 := hb.cell 22
  rw [h] at c0
  clear hb h
  go_enter Tryz.func149, Tryz.ntmps149
  go_wp2_with fail
  go_loopg [3, 4] 0 (fun m s3 s wr => m = 0 ∧ s3 = .slice none 0 0 ∧ s = .int .i64 0 ∧ wr = w)
  case atStart => exact ⟨rfl, rfl, rfl, rfl⟩
  case round =>
    obtain ⟨-, rfl, rfl, rfl⟩ := hrel
    go_wp2_with fail
    go_ret
    exact ⟨rfl, rfl⟩
theorem markedGrams_nil (w : World) : Calls Tryz.prog 167 #[.slice none 0 0] w fun e w' => e = .returned (.bool true) ∧ w = w' := by
  go_enter Tryz.func167, Tryz.ntmps167
  go_wp2_with fail
  go_loopg [3] 0 (fun m s wr => m = 0 ∧ s = .int .i64 0 ∧ wr = w)
  case atStart => exact ⟨rfl, rfl, rfl⟩
  case round =>
    obtain ⟨-, rfl, rfl⟩ := hrel
    go_wp2_with fail
    go_ret
    exact ⟨rfl, rfl⟩
theorem stillSays_nil {w : World} {b : Nat} {t : TypeId} {cs : Array Value} (hb : Blk w b t cs) (h : cs[24]? = some (.slice none 0 0)) :
    Calls Tryz.prog 114 #[.pointer (some ⟨b, 0, none⟩)] w fun e w' => e = .returned (.bool true) ∧ w = w' := by
  have c0 := hb.cell 24
  rw [h] at c0
  clear hb h
  go_enter Tryz.func114, Tryz.ntmps114
  go_wp2_with fail
  go_loopg [3] 0 (fun m s wr => m = 0 ∧ s = .int .i64 0 ∧ wr = w)
  case atStart => exact ⟨rfl, rfl, rfl⟩
  case round =>
    obtain ⟨-, rfl, rfl⟩ := hrel
    go_wp2_with fail
    go_ret
    exact ⟨rfl, rfl⟩
theorem putSays_nil {w : World} {b : Nat} {t : TypeId} {cs : Array Value} (hb : Blk w b t cs) (h : cs[24]? = some (.slice none 0 0)) :
    Calls Tryz.prog 122 #[.pointer (some ⟨b, 0, none⟩)] w fun e w' => e = .returned (.tuple #[]) ∧ w = w' := by
  have c0 := hb.cell 24
  rw [h] at c0
  clear hb h
  go_enter Tryz.func122, Tryz.ntmps122
  go_wp2_with fail
  go_loopg [2] 0 (fun m s wr => m = 0 ∧ s = .int .i64 0 ∧ wr = w)
  case atStart => exact ⟨rfl, rfl, rfl⟩
  case round =>
    obtain ⟨-, rfl, rfl⟩ := hrel
    go_wp2_with fail
    go_end0
    exact ⟨rfl, rfl⟩
theorem growSays_nil {w : World} {b : Nat} {t : TypeId} {cs : Array Value} (hb : Blk w b t cs) (h : cs[24]? = some (.slice none 0 0)) :
    Calls Tryz.prog 150 #[.pointer (some ⟨b, 0, none⟩)] w fun e w' => e = .returned (.slice none 0 0) ∧ w = w' := by
  have c0 := hb.cell 24
  rw [h] at c0
  clear hb h
  go_enter Tryz.func150, Tryz.ntmps150
  go_wp2_with fail
  go_loopg [3, 4] 0 (fun m s3 s wr => m = 0 ∧ s3 = .slice none 0 0 ∧ s = .int .i64 0 ∧ wr = w)
  case atStart => exact ⟨rfl, rfl, rfl, rfl⟩
  case round =>
    obtain ⟨-, rfl, rfl, rfl⟩ := hrel
    go_wp2_with fail
    go_ret
    exact ⟨rfl, rfl⟩
theorem markedSays_nil (w : World) : Calls Tryz.prog 168 #[.slice none 0 0] w fun e w' => e = .returned (.bool true) ∧ w = w' := by
  go_enter Tryz.func168, Tryz.ntmps168
  go_wp2_with fail
  go_loopg [3] 0 (fun m s wr => m = 0 ∧ s = .int .i64 0 ∧ wr = w)
  case atStart => exact ⟨rfl, rfl, rfl⟩
  case round =>
    obtain ⟨-, rfl, rfl⟩ := hrel
    go_wp2_with fail
    go_ret
    exact ⟨rfl, rfl⟩
theorem stillItems_nil {w : World} {b : Nat} {t : TypeId} {cs : Array Value} (hb : Blk w b t cs) (h : cs[26]? = some (.slice none 0 0)) :
    Calls Tryz.prog 115 #[.pointer (some ⟨b, 0, none⟩)] w fun e w' => e = .returned (.bool true) ∧ w = w' := by
  have c0 := hb.cell 26
  rw [h] at c0
  clear hb h
  go_enter Tryz.func115, Tryz.ntmps115
  go_wp2_with fail
  go_loopg [3] 0 (fun m s wr => m = 0 ∧ s = .int .i64 0 ∧ wr = w)
  case atStart => exact ⟨rfl, rfl, rfl⟩
  case round =>
    obtain ⟨-, rfl, rfl⟩ := hrel
    go_wp2_with fail
    go_ret
    exact ⟨rfl, rfl⟩
theorem putItems_nil {w : World} {b : Nat} {t : TypeId} {cs : Array Value} (hb : Blk w b t cs) (h : cs[26]? = some (.slice none 0 0)) :
    Calls Tryz.prog 134 #[.pointer (some ⟨b, 0, none⟩)] w fun e w' => e = .returned (.tuple #[]) ∧ w = w' := by
  have c0 := hb.cell 26
  rw [h] at c0
  clear hb h
  go_enter Tryz.func134, Tryz.ntmps134
  go_wp2_with fail
  go_loopg [2] 0 (fun m s wr => m = 0 ∧ s = .int .i64 0 ∧ wr = w)
  case atStart => exact ⟨rfl, rfl, rfl⟩
  case round =>
    obtain ⟨-, rfl, rfl⟩ := hrel
    go_wp2_with fail
    go_end0
    exact ⟨rfl, rfl⟩
theorem growItems_nil {w : World} {b : Nat} {t : TypeId} {cs : Array Value} (hb : Blk w b t cs) (h : cs[26]? = some (.slice none 0 0)) :
    Calls Tryz.prog 151 #[.pointer (some ⟨b, 0, none⟩)] w fun e w' => e = .returned (.slice none 0 0) ∧ w = w' := by
  have c0 := hb.cell 26
  rw [h] at c0
  clear hb h
  go_enter Tryz.func151, Tryz.ntmps151
  go_wp2_with fail
  go_loopg [3, 4] 0 (fun m s3 s wr => m = 0 ∧ s3 = .slice none 0 0 ∧ s = .int .i64 0 ∧ wr = w)
  case atStart => exact ⟨rfl, rfl, rfl, rfl⟩
  case round =>
    obtain ⟨-, rfl, rfl, rfl⟩ := hrel
    go_wp2_with fail
    go_ret
    exact ⟨rfl, rfl⟩
theorem markedItems_nil (w : World) : Calls Tryz.prog 169 #[.slice none 0 0] w fun e w' => e = .returned (.bool true) ∧ w = w' := by
  go_enter Tryz.func169, Tryz.ntmps169
  go_wp2_with fail
  go_loopg [3] 0 (fun m s wr => m = 0 ∧ s = .int .i64 0 ∧ wr = w)
  case atStart => exact ⟨rfl, rfl, rfl⟩
  case round =>
    obtain ⟨-, rfl, rfl⟩ := hrel
    go_wp2_with fail
    go_ret
    exact ⟨rfl, rfl⟩
theorem stillLines_nil {w : World} {b : Nat} {t : TypeId} {cs : Array Value} (hb : Blk w b t cs) (h : cs[28]? = some (.slice none 0 0)) :
    Calls Tryz.prog 116 #[.pointer (some ⟨b, 0, none⟩)] w fun e w' => e = .returned (.bool true) ∧ w = w' := by
  have c0 := hb.cell 28
  rw [h] at c0
  clear hb h
  go_enter Tryz.func116, Tryz.ntmps116
  go_wp2_with fail
  go_loopg [3] 0 (fun m s wr => m = 0 ∧ s = .int .i64 0 ∧ wr = w)
  case atStart => exact ⟨rfl, rfl, rfl⟩
  case round =>
    obtain ⟨-, rfl, rfl⟩ := hrel
    go_wp2_with fail
    go_ret
    exact ⟨rfl, rfl⟩
theorem putLines_nil {w : World} {b : Nat} {t : TypeId} {cs : Array Value} (hb : Blk w b t cs) (h : cs[28]? = some (.slice none 0 0)) :
    Calls Tryz.prog 135 #[.pointer (some ⟨b, 0, none⟩)] w fun e w' => e = .returned (.tuple #[]) ∧ w = w' := by
  have c0 := hb.cell 28
  rw [h] at c0
  clear hb h
  go_enter Tryz.func135, Tryz.ntmps135
  go_wp2_with fail
  go_loopg [2] 0 (fun m s wr => m = 0 ∧ s = .int .i64 0 ∧ wr = w)
  case atStart => exact ⟨rfl, rfl, rfl⟩
  case round =>
    obtain ⟨-, rfl, rfl⟩ := hrel
    go_wp2_with fail
    go_end0
    exact ⟨rfl, rfl⟩
theorem growLines_nil {w : World} {b : Nat} {t : TypeId} {cs : Array Value} (hb : Blk w b t cs) (h : cs[28]? = some (.slice none 0 0)) :
    Calls Tryz.prog 152 #[.pointer (some ⟨b, 0, none⟩)] w fun e w' => e = .returned (.slice none 0 0) ∧ w = w' := by
  have c0 := hb.cell 28
  rw [h] at c0
  clear hb h
  go_enter Tryz.func152, Tryz.ntmps152
  go_wp2_with fail
  go_loopg [3, 4] 0 (fun m s3 s wr => m = 0 ∧ s3 = .slice none 0 0 ∧ s = .int .i64 0 ∧ wr = w)
  case atStart => exact ⟨rfl, rfl, rfl, rfl⟩
  case round =>
    obtain ⟨-, rfl, rfl, rfl⟩ := hrel
    go_wp2_with fail
    go_ret
    exact ⟨rfl, rfl⟩
theorem markedLines_nil (w : World) : Calls Tryz.prog 170 #[.slice none 0 0] w fun e w' => e = .returned (.bool true) ∧ w = w' := by
  go_enter Tryz.func170, Tryz.ntmps170
  go_wp2_with fail
  go_loopg [3] 0 (fun m s wr => m = 0 ∧ s = .int .i64 0 ∧ wr = w)
  case atStart => exact ⟨rfl, rfl, rfl⟩
  case round =>
    obtain ⟨-, rfl, rfl⟩ := hrel
    go_wp2_with fail
    go_ret
    exact ⟨rfl, rfl⟩
theorem stillSeats_nil {w : World} {b : Nat} {t : TypeId} {cs : Array Value} (hb : Blk w b t cs) (h : cs[30]? = some (.slice none 0 0)) :
    Calls Tryz.prog 117 #[.pointer (some ⟨b, 0, none⟩)] w fun e w' => e = .returned (.bool true) ∧ w = w' := by
  have c0 := hb.cell 30
  rw [h] at c0
  clear hb h
  go_enter Tryz.func117, Tryz.ntmps117
  go_wp2_with fail
  go_loopg [3] 0 (fun m s wr => m = 0 ∧ s = .int .i64 0 ∧ wr = w)
  case atStart => exact ⟨rfl, rfl, rfl⟩
  case round =>
    obtain ⟨-, rfl, rfl⟩ := hrel
    go_wp2_with fail
    go_ret
    exact ⟨rfl, rfl⟩
theorem putSeats_nil {w : World} {b : Nat} {t : TypeId} {cs : Array Value} (hb : Blk w b t cs) (h : cs[30]? = some (.slice none 0 0)) :
    Calls Tryz.prog 136 #[.pointer (some ⟨b, 0, none⟩)] w fun e w' => e = .returned (.tuple #[]) ∧ w = w' := by
  have c0 := hb.cell 30
  rw [h] at c0
  clear hb h
  go_enter Tryz.func136, Tryz.ntmps136
  go_wp2_with fail
  go_loopg [2] 0 (fun m s wr => m = 0 ∧ s = .int .i64 0 ∧ wr = w)
  case atStart => exact ⟨rfl, rfl, rfl⟩
  case round =>
    obtain ⟨-, rfl, rfl⟩ := hrel
    go_wp2_with fail
    go_end0
    exact ⟨rfl, rfl⟩
theorem growSeats_nil {w : World} {b : Nat} {t : TypeId} {cs : Array Value} (hb : Blk w b t cs) (h : cs[30]? = some (.slice none 0 0)) :
    Calls Tryz.prog 153 #[.pointer (some ⟨b, 0, none⟩)] w fun e w' => e = .returned (.slice none 0 0) ∧ w = w' := by
  have c0 := hb.cell 30
  rw [h] at c0
  clear hb h
  go_enter Tryz.func153, Tryz.ntmps153
  go_wp2_with fail
  go_loopg [3, 4] 0 (fun m s3 s wr => m = 0 ∧ s3 = .slice none 0 0 ∧ s = .int .i64 0 ∧ wr = w)
  case atStart => exact ⟨rfl, rfl, rfl, rfl⟩
  case round =>
    obtain ⟨-, rfl, rfl, rfl⟩ := hrel
    go_wp2_with fail
    go_ret
    exact ⟨rfl, rfl⟩
theorem markedSeats_nil (w : World) : Calls Tryz.prog 171 #[.slice none 0 0] w fun e w' => e = .returned (.bool true) ∧ w = w' := by
  go_enter Tryz.func171, Tryz.ntmps171
  go_wp2_with fail
  go_loopg [3] 0 (fun m s wr => m = 0 ∧ s = .int .i64 0 ∧ wr = w)
  case atStart => exact ⟨rfl, rfl, rfl⟩
  case round =>
    obtain ⟨-, rfl, rfl⟩ := hrel
    go_wp2_with fail
    go_ret
    exact ⟨rfl, rfl⟩
theorem stillEvents_nil {w : World} {b : Nat} {t : TypeId} {cs : Array Value} (hb : Blk w b t cs) (h : cs[32]? = some (.slice none 0 0)) :
    Calls Tryz.prog 118 #[.pointer (some ⟨b, 0, none⟩)] w fun e w' => e = .returned (.bool true) ∧ w = w' := by
  have c0 := hb.cell 32
  rw [h] at c0
  clear hb h
  go_enter Tryz.func118, Tryz.ntmps118
  go_wp2_with fail
  go_loopg [3] 0 (fun m s wr => m = 0 ∧ s = .int .i64 0 ∧ wr = w)
  case atStart => exact ⟨rfl, rfl, rfl⟩
  case round =>
    obtain ⟨-, rfl, rfl⟩ := hrel
    go_wp2_with fail
    go_ret
    exact ⟨rfl, rfl⟩
theorem putEvents_nil {w : World} {b : Nat} {t : TypeId} {cs : Array Value} (hb : Blk w b t cs) (h : cs[32]? = some (.slice none 0 0)) :
    Calls Tryz.prog 137 #[.pointer (some ⟨b, 0, none⟩)] w fun e w' => e = .returned (.tuple #[]) ∧ w = w' := by
  have c0 := hb.cell 32
  rw [h] at c0
  clear hb h
  go_enter Tryz.func137, Tryz.ntmps137
  go_wp2_with fail
  go_loopg [2] 0 (fun m s wr => m = 0 ∧ s = .int .i64 0 ∧ wr = w)
  case atStart => exact ⟨rfl, rfl, rfl⟩
  case round =>
    obtain ⟨-, rfl, rfl⟩ := hrel
    go_wp2_with fail
    go_end0
    exact ⟨rfl, rfl⟩
theorem growEvents_nil {w : World} {b : Nat} {t : TypeId} {cs : Array Value} (hb : Blk w b t cs) (h : cs[32]? = some (.slice none 0 0)) :
    Calls Tryz.prog 154 #[.pointer (some ⟨b, 0, none⟩)] w fun e w' => e = .returned (.slice none 0 0) ∧ w = w' := by
  have c0 := hb.cell 32
  rw [h] at c0
  clear hb h
  go_enter Tryz.func154, Tryz.ntmps154
  go_wp2_with fail
  go_loopg [3, 4] 0 (fun m s3 s wr => m = 0 ∧ s3 = .slice none 0 0 ∧ s = .int .i64 0 ∧ wr = w)
  case atStart => exact ⟨rfl, rfl, rfl, rfl⟩
  case round =>
    obtain ⟨-, rfl, rfl, rfl⟩ := hrel
    go_wp2_with fail
    go_ret
    exact ⟨rfl, rfl⟩
theorem markedEvents_nil (w : World) : Calls Tryz.prog 172 #[.slice none 0 0] w fun e w' => e = .returned (.bool true) ∧ w = w' := by
  go_enter Tryz.func172, Tryz.ntmps172
  go_wp2_with fail
  go_loopg [3] 0 (fun m s wr => m = 0 ∧ s = .int .i64 0 ∧ wr = w)
  case atStart => exact ⟨rfl, rfl, rfl⟩
  case round =>
    obtain ⟨-, rfl, rfl⟩ := hrel
    go_wp2_with fail
    go_ret
    exact ⟨rfl, rfl⟩
theorem stillSteps_nil {w : World} {b : Nat} {t : TypeId} {cs : Array Value} (hb : Blk w b t cs) (h : cs[34]? = some (.slice none 0 0)) :
    Calls Tryz.prog 119 #[.pointer (some ⟨b, 0, none⟩)] w fun e w' => e = .returned (.bool true) ∧ w = w' := by
  have c0 := hb.cell 34
  rw [h] at c0
  clear hb h
  go_enter Tryz.func119, Tryz.ntmps119
  go_wp2_with fail
  go_loopg [3] 0 (fun m s wr => m = 0 ∧ s = .int .i64 0 ∧ wr = w)
  case atStart => exact ⟨rfl, rfl, rfl⟩
  case round =>
    obtain ⟨-, rfl, rfl⟩ := hrel
    go_wp2_with fail
    go_ret
    exact ⟨rfl, rfl⟩
theorem putSteps_nil {w : World} {b : Nat} {t : TypeId} {cs : Array Value} (hb : Blk w b t cs) (h : cs[34]? = some (.slice none 0 0)) :
    Calls Tryz.prog 123 #[.pointer (some ⟨b, 0, none⟩)] w fun e w' => e = .returned (.tuple #[]) ∧ w = w' := by
  have c0 := hb.cell 34
  rw [h] at c0
  clear hb h
  go_enter Tryz.func123, Tryz.ntmps123
  go_wp2_with fail
  go_loopg [2] 0 (fun m s wr => m = 0 ∧ s = .int .i64 0 ∧ wr = w)
  case atStart => exact ⟨rfl, rfl, rfl⟩
  case round =>
    obtain ⟨-, rfl, rfl⟩ := hrel
    go_wp2_with fail
    go_end0
    exact ⟨rfl, rfl⟩
theorem growSteps_nil {w : World} {b : Nat} {t : TypeId} {cs : Array Value} (hb : Blk w b t cs) (h : cs[34]? = some (.slice none 0 0)) :
    Calls Tryz.prog 155 #[.pointer (some ⟨b, 0, none⟩)] w fun e w' => e = .returned (.slice none 0 0) ∧ w = w' := by
  have c0 := hb.cell 34
  rw [h] at c0
  clear hb h
  go_enter Tryz.func155, Tryz.ntmps155
  go_wp2_with fail
  go_loopg [3, 4] 0 (fun m s3 s wr => m = 0 ∧ s3 = .slice none 0 0 ∧ s = .int .i64 0 ∧ wr = w)
  case atStart => exact ⟨rfl, rfl, rfl, rfl⟩
  case round =>
    obtain ⟨-, rfl, rfl, rfl⟩ := hrel
    go_wp2_with fail
    go_ret
    exact ⟨rfl, rfl⟩
theorem markedSteps_nil (w : World) : Calls Tryz.prog 173 #[.slice none 0 0] w fun e w' => e = .returned (.bool true) ∧ w = w' := by
  go_enter Tryz.func173, Tryz.ntmps173
  go_wp2_with fail
  go_loopg [3] 0 (fun m s wr => m = 0 ∧ s = .int .i64 0 ∧ wr = w)
  case atStart => exact ⟨rfl, rfl, rfl⟩
  case round =>
    obtain ⟨-, rfl, rfl⟩ := hrel
    go_wp2_with fail
    go_ret
    exact ⟨rfl, rfl⟩
end Go.Proofs.YtglafpdealjlnaaGreat
namespace Go.Proofs.YtglafpdealjlnaaGreat
open Go.RowKit
set_option linter.unusedSimpArgs false
set_option linter.unusedVariables false
set_option maxRecDepth 100000

theorem name_any (i k : Nat) (hi : i ≤ 1000) (hk : k ≤ 1000000000000) (w : World) :
    Calls Tryz.prog 311 #[.int .i64 i, .int .i64 k] w fun e w' => e = .returned (.string (nm i k)) ∧ Upd [] w w' := by
  have hcv := run_convert_bytes_arg (P := Tryz.prog) (w.alloc (.cells ((nmL i k).map (Value.int .u8)).toArray 5)) 151 5 Tryz.underlying151 Tryz.underlying5 w.heap.size 0 6 6 (nmL i k) rfl (fun j hj => by
    rw [Nat.zero_add, (Blk.new _ _ _).cell]
    have hj' : j < (nmL i k).length := by simpa [nmL] using hj
    simp [List.getElem?_eq_getElem hj']) 9 Tryz.underlying9
  simp only [nmL, List.map_cons, List.map_nil] at hcv
  go_enter Tryz.func311, Tryz.ntmps311
  go_wp2_with fail
  go_ret
  exact ⟨rfl, (Upd.refl _ _).alloc _⟩
end Go.Proofs.YtglafpdealjlnaaGreat
