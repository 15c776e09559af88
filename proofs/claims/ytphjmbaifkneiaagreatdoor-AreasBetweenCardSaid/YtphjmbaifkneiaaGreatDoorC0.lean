/- layer 18's 'limits' of the names that are asked. -/
import Derived.Test.YtphjmbaifkneiaaGreatDoorF4
namespace Go.Proofs.YtphjmbaifkneiaaGreatDoor
open Go.RowKit

set_option maxHeartbeats 2000000
set_option maxRecDepth 100000

def nm (s : String) : ByteArray := s.toUTF8
theorem limits_COUNTIF (w : World) : Calls Tryz.prog 21 #[.string ⟨#[67,79,85,78,84,73,70]⟩] w fun e w' => e = .returned (.tuple #[.int .i64 2, .int .i64 2]) ∧ w = w' := by
  go_enter Tryz.func21, Tryz.ntmps21
  go_wp2
  go_ret2
  exact ⟨rfl, rfl⟩
theorem limits_MATCH (w : World) : Calls Tryz.prog 21 #[.string ⟨#[77,65,84,67,72]⟩] w fun e w' => e = .returned (.tuple #[.int .i64 2, .int .i64 2]) ∧ w = w' := by
  go_enter Tryz.func21, Tryz.ntmps21
  go_wp2
  go_ret2
  exact ⟨rfl, rfl⟩
theorem limits_INDEX (w : World) : Calls Tryz.prog 21 #[.string ⟨#[73,78,68,69,88]⟩] w fun e w' => e = .returned (.tuple #[.int .i64 2, .int .i64 3]) ∧ w = w' := by
  go_enter Tryz.func21, Tryz.ntmps21
  go_wp2
  go_ret2
  exact ⟨rfl, rfl⟩
theorem limits_AVERAGE (w : World) : Calls Tryz.prog 21 #[.string ⟨#[65,86,69,82,65,71,69]⟩] w fun e w' => e = .returned (.tuple #[.int .i64 1, .int .i64 30]) ∧ w = w' := by
  go_enter Tryz.func21, Tryz.ntmps21
  go_wp2
  go_ret2
  exact ⟨rfl, rfl⟩
end Go.Proofs.YtphjmbaifkneiaaGreatDoor
