/- The functions' evaluated forms, each a proved summary. Conditions: none. -/
import Derived.Test.YtokpamekcpbkaaaPcF1
namespace Go.Proofs.Ytokpamekcpbkaaa.Pc
open Go Go.RowKit Go.Proofs Vm
set_option linter.unusedVariables false
set_option linter.unusedSimpArgs false
set_option maxRecDepth 100000
/-! spec.l5Cmd -/
def F_spec_l5Cmd_M (fu : Nat) (b0_0 : (Sl Int)) (b0_1 : Int) : Option (Int × Int × Int × Int × Int × Int × (Sl Int) × Int) :=
  ((F_spec_l1Pick_M fu (⟨(some false), 12, (fun i => [1, 1, 2, 3, 4, 5, 6, 7, 7, 7, 8, 9].getD i (dflt .i64))⟩ : (Sl Int)) b0_0 b0_1).bind fun y387 => ((F_spec_l1Next_M fu 5 y387.2.1 y387.2.2).bind fun y388 =>
    ((F_spec_l1Next_M fu 3 y388.2.1 y388.2.2).bind fun y389 => ((F_spec_l1Pick_M fu (⟨(some false), 3, (fun i => [80, 80, 443].getD i (dflt .i64))⟩ : (Sl Int)) y389.2.1 y389.2.2).bind fun y390 =>
    (bif (y387.1 == 1) then ((F_spec_l1Next_M fu 4 y390.2.1 y390.2.2).bind fun y391 => ((F_spec_l5Needs fu y387.1).bind fun y392 => (bif (!y392.1) then (bif (!y392.2.1) then (bif (!y392.2.2.1) then
    (bif (!y392.2.2.2) then ((F_spec_l1Chance_M fu 12 y391.2.1 y391.2.2).bind fun y393 => (bif y393.1 then ((F_spec_l1Next_M fu 9 y393.2.1 y393.2.2).bind fun y394 => (some (y387.1,
    y394.1, 0, 0, 0, 0, y394.2.1, y394.2.2))) else (some (y387.1, (-1), 0, 0, 0, 0, y393.2.1, y393.2.2)))) else ((F_spec_l1Chance_M fu 12 y391.2.1 y391.2.2).bind fun y395 => (bif y395.1 then
    ((F_spec_l1Next_M fu 9 y395.2.1 y395.2.2).bind fun y396 => (some (y387.1, y396.1, 0, 0, 0, 6, y396.2.1, y396.2.2))) else (some (y387.1, (-1), 0, 0, 0, 6, y395.2.1, y395.2.2))))) else
    (bif (!y392.2.2.2) then ((F_spec_l1Chance_M fu 12 y391.2.1 y391.2.2).bind fun y397 => (bif y397.1 then ((F_spec_l1Next_M fu 9 y397.2.1 y397.2.2).bind fun y398 => (some (y387.1,
    y398.1, 0, 0, y391.1, 0, y398.2.1, y398.2.2))) else (some (y387.1, (-1), 0, 0, y391.1, 0, y397.2.1, y397.2.2)))) else ((F_spec_l1Chance_M fu 12 y391.2.1 y391.2.2).bind fun y399 =>
    (bif y399.1 then ((F_spec_l1Next_M fu 9 y399.2.1 y399.2.2).bind fun y400 => (some (y387.1, y400.1, 0, 0, y391.1, 6, y400.2.1, y400.2.2))) else (some (y387.1, (-1), 0, 0, y391.1,
    6, y399.2.1, y399.2.2)))))) else (bif (!y392.2.2.1) then (bif (!y392.2.2.2) then ((F_spec_l1Chance_M fu 12 y391.2.1 y391.2.2).bind fun y401 => (bif y401.1 then ((F_spec_l1Next_M fu 9 y401.2.1 y401.2.2).bind fun y402 =>
    (some (y387.1, y402.1, 0, (IntKind.wrap .i64 (500 + (IntKind.wrap .i64 (1 + y388.1)))), 0, 0, y402.2.1, y402.2.2))) else (some (y387.1, (-1), 0, (IntKind.wrap .i64 (500 + (IntKind.wrap .i64 (1 + y388.1)))),
    0, 0, y401.2.1, y401.2.2)))) else ((F_spec_l1Chance_M fu 12 y391.2.1 y391.2.2).bind fun y403 => (bif y403.1 then ((F_spec_l1Next_M fu 9 y403.2.1 y403.2.2).bind fun y404 => (some (y387.1,
    y404.1, 0, (IntKind.wrap .i64 (500 + (IntKind.wrap .i64 (1 + y388.1)))), 0, 6, y404.2.1, y404.2.2))) else (some (y387.1, (-1), 0, (IntKind.wrap .i64 (500 + (IntKind.wrap .i64 (1 + y388.1)))),
    0, 6, y403.2.1, y403.2.2))))) else (bif (!y392.2.2.2) then ((F_spec_l1Chance_M fu 12 y391.2.1 y391.2.2).bind fun y405 => (bif y405.1 then ((F_spec_l1Next_M fu 9 y405.2.1 y405.2.2).bind fun y406 =>
    (some (y387.1, y406.1, 0, (IntKind.wrap .i64 (500 + (IntKind.wrap .i64 (1 + y388.1)))), y391.1, 0, y406.2.1, y406.2.2))) else (some (y387.1, (-1), 0, (IntKind.wrap .i64 (500 + (IntKind.wrap .i64 (1 + y388.1)))),
    y391.1, 0, y405.2.1, y405.2.2)))) else ((F_spec_l1Chance_M fu 12 y391.2.1 y391.2.2).bind fun y407 => (bif y407.1 then ((F_spec_l1Next_M fu 9 y407.2.1 y407.2.2).bind fun y408 =>
    (some (y387.1, y408.1, 0, (IntKind.wrap .i64 (500 + (IntKind.wrap .i64 (1 + y388.1)))), y391.1, 6, y408.2.1, y408.2.2))) else (some (y387.1, (-1), 0, (IntKind.wrap .i64 (500 + (IntKind.wrap .i64 (1 + y388.1)))),
    y391.1, 6, y407.2.1, y407.2.2))))))) else (bif (!y392.2.1) then (bif (!y392.2.2.1) then (bif (!y392.2.2.2) then ((F_spec_l1Chance_M fu 12 y391.2.1 y391.2.2).bind fun y409 =>
    (bif y409.1 then ((F_spec_l1Next_M fu 9 y409.2.1 y409.2.2).bind fun y410 => (some (y387.1, y410.1, (IntKind.wrap .i64 (1 + y388.1)), 0, 0, 0, y410.2.1, y410.2.2))) else (some (y387.1,
    (-1), (IntKind.wrap .i64 (1 + y388.1)), 0, 0, 0, y409.2.1, y409.2.2)))) else ((F_spec_l1Chance_M fu 12 y391.2.1 y391.2.2).bind fun y411 => (bif y411.1 then ((F_spec_l1Next_M fu 9 y411.2.1 y411.2.2).bind fun y412 =>
    (some (y387.1, y412.1, (IntKind.wrap .i64 (1 + y388.1)), 0, 0, 6, y412.2.1, y412.2.2))) else (some (y387.1, (-1), (IntKind.wrap .i64 (1 + y388.1)), 0, 0, 6, y411.2.1,
    y411.2.2))))) else (bif (!y392.2.2.2) then ((F_spec_l1Chance_M fu 12 y391.2.1 y391.2.2).bind fun y413 => (bif y413.1 then ((F_spec_l1Next_M fu 9 y413.2.1 y413.2.2).bind fun y414 =>
    (some (y387.1, y414.1, (IntKind.wrap .i64 (1 + y388.1)), 0, y391.1, 0, y414.2.1, y414.2.2))) else (some (y387.1, (-1), (IntKind.wrap .i64 (1 + y388.1)), 0, y391.1, 0, y413.2.1,
    y413.2.2)))) else ((F_spec_l1Chance_M fu 12 y391.2.1 y391.2.2).bind fun y415 => (bif y415.1 then ((F_spec_l1Next_M fu 9 y415.2.1 y415.2.2).bind fun y416 => (some (y387.1,
    y416.1, (IntKind.wrap .i64 (1 + y388.1)), 0, y391.1, 6, y416.2.1, y416.2.2))) else (some (y387.1, (-1), (IntKind.wrap .i64 (1 + y388.1)), 0, y391.1, 6, y415.2.1, y415.2.2)))))) else
    (bif (!y392.2.2.1) then (bif (!y392.2.2.2) then ((F_spec_l1Chance_M fu 12 y391.2.1 y391.2.2).bind fun y417 => (bif y417.1 then ((F_spec_l1Next_M fu 9 y417.2.1 y417.2.2).bind fun y418 =>
    (some (y387.1, y418.1, (IntKind.wrap .i64 (1 + y388.1)), (IntKind.wrap .i64 (500 + (IntKind.wrap .i64 (1 + y388.1)))), 0, 0, y418.2.1, y418.2.2))) else (some (y387.1, (-1),
    (IntKind.wrap .i64 (1 + y388.1)), (IntKind.wrap .i64 (500 + (IntKind.wrap .i64 (1 + y388.1)))), 0, 0, y417.2.1, y417.2.2)))) else ((F_spec_l1Chance_M fu 12 y391.2.1 y391.2.2).bind fun y419 =>
    (bif y419.1 then ((F_spec_l1Next_M fu 9 y419.2.1 y419.2.2).bind fun y420 => (some (y387.1, y420.1, (IntKind.wrap .i64 (1 + y388.1)), (IntKind.wrap .i64 (500 + (IntKind.wrap .i64 (1 + y388.1)))),
    0, 6, y420.2.1, y420.2.2))) else (some (y387.1, (-1), (IntKind.wrap .i64 (1 + y388.1)), (IntKind.wrap .i64 (500 + (IntKind.wrap .i64 (1 + y388.1)))), 0, 6, y419.2.1,
    y419.2.2))))) else (bif (!y392.2.2.2) then ((F_spec_l1Chance_M fu 12 y391.2.1 y391.2.2).bind fun y421 => (bif y421.1 then ((F_spec_l1Next_M fu 9 y421.2.1 y421.2.2).bind fun y422 =>
    (some (y387.1, y422.1, (IntKind.wrap .i64 (1 + y388.1)), (IntKind.wrap .i64 (500 + (IntKind.wrap .i64 (1 + y388.1)))), y391.1, 0, y422.2.1, y422.2.2))) else (some (y387.1, (-1),
    (IntKind.wrap .i64 (1 + y388.1)), (IntKind.wrap .i64 (500 + (IntKind.wrap .i64 (1 + y388.1)))), y391.1, 0, y421.2.1, y421.2.2)))) else ((F_spec_l1Chance_M fu 12 y391.2.1 y391.2.2).bind fun y423 =>
    (bif y423.1 then ((F_spec_l1Next_M fu 9 y423.2.1 y423.2.2).bind fun y424 => (some (y387.1, y424.1, (IntKind.wrap .i64 (1 + y388.1)), (IntKind.wrap .i64 (500 + (IntKind.wrap .i64 (1 + y388.1)))),
    y391.1, 6, y424.2.1, y424.2.2))) else (some (y387.1, (-1), (IntKind.wrap .i64 (1 + y388.1)), (IntKind.wrap .i64 (500 + (IntKind.wrap .i64 (1 + y388.1)))), y391.1, 6, y423.2.1,
    y423.2.2)))))))))) else (bif (y387.1 == 2) then ((F_spec_l1Next_M fu 10 y390.2.1 y390.2.2).bind fun y425 => ((F_spec_l5Needs fu y387.1).bind fun y426 => (bif (!y426.1) then (bif (!y426.2.1) then
    (bif (!y426.2.2.1) then (bif (!y426.2.2.2) then ((F_spec_l1Chance_M fu 12 y425.2.1 y425.2.2).bind fun y427 => (bif y427.1 then ((F_spec_l1Next_M fu 9 y427.2.1 y427.2.2).bind fun y428 =>
    (some (y387.1, y428.1, 0, 0, 0, 0, y428.2.1, y428.2.2))) else (some (y387.1, (-1), 0, 0, 0, 0, y427.2.1, y427.2.2)))) else ((F_spec_l1Chance_M fu 12 y425.2.1 y425.2.2).bind fun y429 =>
    (bif y429.1 then ((F_spec_l1Next_M fu 9 y429.2.1 y429.2.2).bind fun y430 => (some (y387.1, y430.1, 0, 0, 0, 6, y430.2.1, y430.2.2))) else (some (y387.1, (-1), 0, 0, 0, 6,
    y429.2.1, y429.2.2))))) else (bif (!y426.2.2.2) then ((F_spec_l1Chance_M fu 12 y425.2.1 y425.2.2).bind fun y431 => (bif y431.1 then ((F_spec_l1Next_M fu 9 y431.2.1 y431.2.2).bind fun y432 =>
    (some (y387.1, y432.1, 0, 0, y425.1, 0, y432.2.1, y432.2.2))) else (some (y387.1, (-1), 0, 0, y425.1, 0, y431.2.1, y431.2.2)))) else ((F_spec_l1Chance_M fu 12 y425.2.1 y425.2.2).bind fun y433 =>
    (bif y433.1 then ((F_spec_l1Next_M fu 9 y433.2.1 y433.2.2).bind fun y434 => (some (y387.1, y434.1, 0, 0, y425.1, 6, y434.2.1, y434.2.2))) else (some (y387.1, (-1), 0, 0, y425.1,
    6, y433.2.1, y433.2.2)))))) else (bif (!y426.2.2.1) then (bif (!y426.2.2.2) then ((F_spec_l1Chance_M fu 12 y425.2.1 y425.2.2).bind fun y435 => (bif y435.1 then ((F_spec_l1Next_M fu 9 y435.2.1 y435.2.2).bind fun y436 =>
    (some (y387.1, y436.1, 0, (IntKind.wrap .i64 (167772160 + y389.1)), 0, 0, y436.2.1, y436.2.2))) else (some (y387.1, (-1), 0, (IntKind.wrap .i64 (167772160 + y389.1)), 0, 0,
    y435.2.1, y435.2.2)))) else ((F_spec_l1Chance_M fu 12 y425.2.1 y425.2.2).bind fun y437 => (bif y437.1 then ((F_spec_l1Next_M fu 9 y437.2.1 y437.2.2).bind fun y438 => (some (y387.1,
    y438.1, 0, (IntKind.wrap .i64 (167772160 + y389.1)), 0, 6, y438.2.1, y438.2.2))) else (some (y387.1, (-1), 0, (IntKind.wrap .i64 (167772160 + y389.1)), 0, 6, y437.2.1,
    y437.2.2))))) else (bif (!y426.2.2.2) then ((F_spec_l1Chance_M fu 12 y425.2.1 y425.2.2).bind fun y439 => (bif y439.1 then ((F_spec_l1Next_M fu 9 y439.2.1 y439.2.2).bind fun y440 =>
    (some (y387.1, y440.1, 0, (IntKind.wrap .i64 (167772160 + y389.1)), y425.1, 0, y440.2.1, y440.2.2))) else (some (y387.1, (-1), 0, (IntKind.wrap .i64 (167772160 + y389.1)),
    y425.1, 0, y439.2.1, y439.2.2)))) else ((F_spec_l1Chance_M fu 12 y425.2.1 y425.2.2).bind fun y441 => (bif y441.1 then ((F_spec_l1Next_M fu 9 y441.2.1 y441.2.2).bind fun y442 =>
    (some (y387.1, y442.1, 0, (IntKind.wrap .i64 (167772160 + y389.1)), y425.1, 6, y442.2.1, y442.2.2))) else (some (y387.1, (-1), 0, (IntKind.wrap .i64 (167772160 + y389.1)),
    y425.1, 6, y441.2.1, y441.2.2))))))) else (bif (!y426.2.1) then (bif (!y426.2.2.1) then (bif (!y426.2.2.2) then ((F_spec_l1Chance_M fu 12 y425.2.1 y425.2.2).bind fun y443 =>
    (bif y443.1 then ((F_spec_l1Next_M fu 9 y443.2.1 y443.2.2).bind fun y444 => (some (y387.1, y444.1, (IntKind.wrap .i64 (1 + y388.1)), 0, 0, 0, y444.2.1, y444.2.2))) else (some (y387.1,
    (-1), (IntKind.wrap .i64 (1 + y388.1)), 0, 0, 0, y443.2.1, y443.2.2)))) else ((F_spec_l1Chance_M fu 12 y425.2.1 y425.2.2).bind fun y445 => (bif y445.1 then ((F_spec_l1Next_M fu 9 y445.2.1 y445.2.2).bind fun y446 =>
    (some (y387.1, y446.1, (IntKind.wrap .i64 (1 + y388.1)), 0, 0, 6, y446.2.1, y446.2.2))) else (some (y387.1, (-1), (IntKind.wrap .i64 (1 + y388.1)), 0, 0, 6, y445.2.1,
    y445.2.2))))) else (bif (!y426.2.2.2) then ((F_spec_l1Chance_M fu 12 y425.2.1 y425.2.2).bind fun y447 => (bif y447.1 then ((F_spec_l1Next_M fu 9 y447.2.1 y447.2.2).bind fun y448 =>
    (some (y387.1, y448.1, (IntKind.wrap .i64 (1 + y388.1)), 0, y425.1, 0, y448.2.1, y448.2.2))) else (some (y387.1, (-1), (IntKind.wrap .i64 (1 + y388.1)), 0, y425.1, 0, y447.2.1,
    y447.2.2)))) else ((F_spec_l1Chance_M fu 12 y425.2.1 y425.2.2).bind fun y449 => (bif y449.1 then ((F_spec_l1Next_M fu 9 y449.2.1 y449.2.2).bind fun y450 => (some (y387.1,
    y450.1, (IntKind.wrap .i64 (1 + y388.1)), 0, y425.1, 6, y450.2.1, y450.2.2))) else (some (y387.1, (-1), (IntKind.wrap .i64 (1 + y388.1)), 0, y425.1, 6, y449.2.1, y449.2.2)))))) else
    (bif (!y426.2.2.1) then (bif (!y426.2.2.2) then ((F_spec_l1Chance_M fu 12 y425.2.1 y425.2.2).bind fun y451 => (bif y451.1 then ((F_spec_l1Next_M fu 9 y451.2.1 y451.2.2).bind fun y452 =>
    (some (y387.1, y452.1, (IntKind.wrap .i64 (1 + y388.1)), (IntKind.wrap .i64 (167772160 + y389.1)), 0, 0, y452.2.1, y452.2.2))) else (some (y387.1, (-1), (IntKind.wrap .i64 (1 + y388.1)),
    (IntKind.wrap .i64 (167772160 + y389.1)), 0, 0, y451.2.1, y451.2.2)))) else ((F_spec_l1Chance_M fu 12 y425.2.1 y425.2.2).bind fun y453 => (bif y453.1 then ((F_spec_l1Next_M fu 9 y453.2.1 y453.2.2).bind fun y454 =>
    (some (y387.1, y454.1, (IntKind.wrap .i64 (1 + y388.1)), (IntKind.wrap .i64 (167772160 + y389.1)), 0, 6, y454.2.1, y454.2.2))) else (some (y387.1, (-1), (IntKind.wrap .i64 (1 + y388.1)),
    (IntKind.wrap .i64 (167772160 + y389.1)), 0, 6, y453.2.1, y453.2.2))))) else (bif (!y426.2.2.2) then ((F_spec_l1Chance_M fu 12 y425.2.1 y425.2.2).bind fun y455 => (bif y455.1 then
    ((F_spec_l1Next_M fu 9 y455.2.1 y455.2.2).bind fun y456 => (some (y387.1, y456.1, (IntKind.wrap .i64 (1 + y388.1)), (IntKind.wrap .i64 (167772160 + y389.1)), y425.1, 0,
    y456.2.1, y456.2.2))) else (some (y387.1, (-1), (IntKind.wrap .i64 (1 + y388.1)), (IntKind.wrap .i64 (167772160 + y389.1)), y425.1, 0, y455.2.1, y455.2.2)))) else
    ((F_spec_l1Chance_M fu 12 y425.2.1 y425.2.2).bind fun y457 => (bif y457.1 then ((F_spec_l1Next_M fu 9 y457.2.1 y457.2.2).bind fun y458 => (some (y387.1, y458.1, (IntKind.wrap .i64 (1 + y388.1)),
    (IntKind.wrap .i64 (167772160 + y389.1)), y425.1, 6, y458.2.1, y458.2.2))) else (some (y387.1, (-1), (IntKind.wrap .i64 (1 + y388.1)), (IntKind.wrap .i64 (167772160 + y389.1)),
    y425.1, 6, y457.2.1, y457.2.2)))))))))) else (bif (y387.1 == 3) then ((F_spec_l1Next_M fu 3 y390.2.1 y390.2.2).bind fun y459 => ((F_spec_l5Needs fu y387.1).bind fun y460 => (bif (!y460.1) then
    (bif (!y460.2.1) then (bif (!y460.2.2.1) then (bif (!y460.2.2.2) then ((F_spec_l1Chance_M fu 12 y459.2.1 y459.2.2).bind fun y461 => (bif y461.1 then ((F_spec_l1Next_M fu 9 y461.2.1 y461.2.2).bind fun y462 =>
    (some (y387.1, y462.1, 0, 0, 0, 0, y462.2.1, y462.2.2))) else (some (y387.1, (-1), 0, 0, 0, 0, y461.2.1, y461.2.2)))) else ((F_spec_l1Chance_M fu 12 y459.2.1 y459.2.2).bind fun y463 =>
    (bif y463.1 then ((F_spec_l1Next_M fu 9 y463.2.1 y463.2.2).bind fun y464 => (some (y387.1, y464.1, 0, 0, 0, 6, y464.2.1, y464.2.2))) else (some (y387.1, (-1), 0, 0, 0, 6,
    y463.2.1, y463.2.2))))) else (bif (!y460.2.2.2) then ((F_spec_l1Chance_M fu 12 y459.2.1 y459.2.2).bind fun y465 => (bif y465.1 then ((F_spec_l1Next_M fu 9 y465.2.1 y465.2.2).bind fun y466 =>
    (some (y387.1, y466.1, 0, 0, (IntKind.wrap .i64 (1 + y459.1)), 0, y466.2.1, y466.2.2))) else (some (y387.1, (-1), 0, 0, (IntKind.wrap .i64 (1 + y459.1)), 0, y465.2.1,
    y465.2.2)))) else ((F_spec_l1Chance_M fu 12 y459.2.1 y459.2.2).bind fun y467 => (bif y467.1 then ((F_spec_l1Next_M fu 9 y467.2.1 y467.2.2).bind fun y468 => (some (y387.1,
    y468.1, 0, 0, (IntKind.wrap .i64 (1 + y459.1)), 6, y468.2.1, y468.2.2))) else (some (y387.1, (-1), 0, 0, (IntKind.wrap .i64 (1 + y459.1)), 6, y467.2.1, y467.2.2)))))) else (bif (!y460.2.2.1) then
    (bif (!y460.2.2.2) then ((F_spec_l1Chance_M fu 12 y459.2.1 y459.2.2).bind fun y469 => (bif y469.1 then ((F_spec_l1Next_M fu 9 y469.2.1 y469.2.2).bind fun y470 => (some (y387.1,
    y470.1, 0, (IntKind.wrap .i64 (167772160 + y389.1)), 0, 0, y470.2.1, y470.2.2))) else (some (y387.1, (-1), 0, (IntKind.wrap .i64 (167772160 + y389.1)), 0, 0, y469.2.1,
    y469.2.2)))) else ((F_spec_l1Chance_M fu 12 y459.2.1 y459.2.2).bind fun y471 => (bif y471.1 then ((F_spec_l1Next_M fu 9 y471.2.1 y471.2.2).bind fun y472 => (some (y387.1,
    y472.1, 0, (IntKind.wrap .i64 (167772160 + y389.1)), 0, 6, y472.2.1, y472.2.2))) else (some (y387.1, (-1), 0, (IntKind.wrap .i64 (167772160 + y389.1)), 0, 6, y471.2.1,
    y471.2.2))))) else (bif (!y460.2.2.2) then ((F_spec_l1Chance_M fu 12 y459.2.1 y459.2.2).bind fun y473 => (bif y473.1 then ((F_spec_l1Next_M fu 9 y473.2.1 y473.2.2).bind fun y474 =>
    (some (y387.1, y474.1, 0, (IntKind.wrap .i64 (167772160 + y389.1)), (IntKind.wrap .i64 (1 + y459.1)), 0, y474.2.1, y474.2.2))) else (some (y387.1, (-1), 0, (IntKind.wrap .i64 (167772160 + y389.1)),
    (IntKind.wrap .i64 (1 + y459.1)), 0, y473.2.1, y473.2.2)))) else ((F_spec_l1Chance_M fu 12 y459.2.1 y459.2.2).bind fun y475 => (bif y475.1 then ((F_spec_l1Next_M fu 9 y475.2.1 y475.2.2).bind fun y476 =>
    (some (y387.1, y476.1, 0, (IntKind.wrap .i64 (167772160 + y389.1)), (IntKind.wrap .i64 (1 + y459.1)), 6, y476.2.1, y476.2.2))) else (some (y387.1, (-1), 0, (IntKind.wrap .i64 (167772160 + y389.1)),
    (IntKind.wrap .i64 (1 + y459.1)), 6, y475.2.1, y475.2.2))))))) else (bif (!y460.2.1) then (bif (!y460.2.2.1) then (bif (!y460.2.2.2) then ((F_spec_l1Chance_M fu 12 y459.2.1 y459.2.2).bind fun y477 =>
    (bif y477.1 then ((F_spec_l1Next_M fu 9 y477.2.1 y477.2.2).bind fun y478 => (some (y387.1, y478.1, (IntKind.wrap .i64 (1 + y388.1)), 0, 0, 0, y478.2.1, y478.2.2))) else (some (y387.1,
    (-1), (IntKind.wrap .i64 (1 + y388.1)), 0, 0, 0, y477.2.1, y477.2.2)))) else ((F_spec_l1Chance_M fu 12 y459.2.1 y459.2.2).bind fun y479 => (bif y479.1 then ((F_spec_l1Next_M fu 9 y479.2.1 y479.2.2).bind fun y480 =>
    (some (y387.1, y480.1, (IntKind.wrap .i64 (1 + y388.1)), 0, 0, 6, y480.2.1, y480.2.2))) else (some (y387.1, (-1), (IntKind.wrap .i64 (1 + y388.1)), 0, 0, 6, y479.2.1,
    y479.2.2))))) else (bif (!y460.2.2.2) then ((F_spec_l1Chance_M fu 12 y459.2.1 y459.2.2).bind fun y481 => (bif y481.1 then ((F_spec_l1Next_M fu 9 y481.2.1 y481.2.2).bind fun y482 =>
    (some (y387.1, y482.1, (IntKind.wrap .i64 (1 + y388.1)), 0, (IntKind.wrap .i64 (1 + y459.1)), 0, y482.2.1, y482.2.2))) else (some (y387.1, (-1), (IntKind.wrap .i64 (1 + y388.1)),
    0, (IntKind.wrap .i64 (1 + y459.1)), 0, y481.2.1, y481.2.2)))) else ((F_spec_l1Chance_M fu 12 y459.2.1 y459.2.2).bind fun y483 => (bif y483.1 then ((F_spec_l1Next_M fu 9 y483.2.1 y483.2.2).bind fun y484 =>
    (some (y387.1, y484.1, (IntKind.wrap .i64 (1 + y388.1)), 0, (IntKind.wrap .i64 (1 + y459.1)), 6, y484.2.1, y484.2.2))) else (some (y387.1, (-1), (IntKind.wrap .i64 (1 + y388.1)),
    0, (IntKind.wrap .i64 (1 + y459.1)), 6, y483.2.1, y483.2.2)))))) else (bif (!y460.2.2.1) then (bif (!y460.2.2.2) then ((F_spec_l1Chance_M fu 12 y459.2.1 y459.2.2).bind fun y485 =>
    (bif y485.1 then ((F_spec_l1Next_M fu 9 y485.2.1 y485.2.2).bind fun y486 => (some (y387.1, y486.1, (IntKind.wrap .i64 (1 + y388.1)), (IntKind.wrap .i64 (167772160 + y389.1)), 0,
    0, y486.2.1, y486.2.2))) else (some (y387.1, (-1), (IntKind.wrap .i64 (1 + y388.1)), (IntKind.wrap .i64 (167772160 + y389.1)), 0, 0, y485.2.1, y485.2.2)))) else
    ((F_spec_l1Chance_M fu 12 y459.2.1 y459.2.2).bind fun y487 => (bif y487.1 then ((F_spec_l1Next_M fu 9 y487.2.1 y487.2.2).bind fun y488 => (some (y387.1, y488.1, (IntKind.wrap .i64 (1 + y388.1)),
    (IntKind.wrap .i64 (167772160 + y389.1)), 0, 6, y488.2.1, y488.2.2))) else (some (y387.1, (-1), (IntKind.wrap .i64 (1 + y388.1)), (IntKind.wrap .i64 (167772160 + y389.1)), 0, 6,
    y487.2.1, y487.2.2))))) else (bif (!y460.2.2.2) then ((F_spec_l1Chance_M fu 12 y459.2.1 y459.2.2).bind fun y489 => (bif y489.1 then ((F_spec_l1Next_M fu 9 y489.2.1 y489.2.2).bind fun y490 =>
    (some (y387.1, y490.1, (IntKind.wrap .i64 (1 + y388.1)), (IntKind.wrap .i64 (167772160 + y389.1)), (IntKind.wrap .i64 (1 + y459.1)), 0, y490.2.1, y490.2.2))) else (some (y387.1,
    (-1), (IntKind.wrap .i64 (1 + y388.1)), (IntKind.wrap .i64 (167772160 + y389.1)), (IntKind.wrap .i64 (1 + y459.1)), 0, y489.2.1, y489.2.2)))) else ((F_spec_l1Chance_M fu 12 y459.2.1 y459.2.2).bind fun y491 =>
    (bif y491.1 then ((F_spec_l1Next_M fu 9 y491.2.1 y491.2.2).bind fun y492 => (some (y387.1, y492.1, (IntKind.wrap .i64 (1 + y388.1)), (IntKind.wrap .i64 (167772160 + y389.1)),
    (IntKind.wrap .i64 (1 + y459.1)), 6, y492.2.1, y492.2.2))) else (some (y387.1, (-1), (IntKind.wrap .i64 (1 + y388.1)), (IntKind.wrap .i64 (167772160 + y389.1)), (IntKind.wrap .i64 (1 + y459.1)),
    6, y491.2.1, y491.2.2)))))))))) else (bif (y387.1 == 9) then ((F_spec_l1Next_M fu 2 y390.2.1 y390.2.2).bind fun y493 => ((F_spec_l5Needs fu y387.1).bind fun y494 => (bif (!y494.1) then
    (bif (!y494.2.1) then (bif (!y494.2.2.1) then (bif (!y494.2.2.2) then ((F_spec_l1Chance_M fu 12 y493.2.1 y493.2.2).bind fun y495 => (bif y495.1 then ((F_spec_l1Next_M fu 9 y495.2.1 y495.2.2).bind fun y496 =>
    (some (y387.1, y496.1, 0, 0, 0, 0, y496.2.1, y496.2.2))) else (some (y387.1, (-1), 0, 0, 0, 0, y495.2.1, y495.2.2)))) else ((F_spec_l1Chance_M fu 12 y493.2.1 y493.2.2).bind fun y497 =>
    (bif y497.1 then ((F_spec_l1Next_M fu 9 y497.2.1 y497.2.2).bind fun y498 => (some (y387.1, y498.1, 0, 0, 0, 6, y498.2.1, y498.2.2))) else (some (y387.1, (-1), 0, 0, 0, 6,
    y497.2.1, y497.2.2))))) else (bif (!y494.2.2.2) then ((F_spec_l1Chance_M fu 12 y493.2.1 y493.2.2).bind fun y499 => (bif y499.1 then ((F_spec_l1Next_M fu 9 y499.2.1 y499.2.2).bind fun y500 =>
    (some (y387.1, y500.1, 0, 0, y493.1, 0, y500.2.1, y500.2.2))) else (some (y387.1, (-1), 0, 0, y493.1, 0, y499.2.1, y499.2.2)))) else ((F_spec_l1Chance_M fu 12 y493.2.1 y493.2.2).bind fun y501 =>
    (bif y501.1 then ((F_spec_l1Next_M fu 9 y501.2.1 y501.2.2).bind fun y502 => (some (y387.1, y502.1, 0, 0, y493.1, 6, y502.2.1, y502.2.2))) else (some (y387.1, (-1), 0, 0, y493.1,
    6, y501.2.1, y501.2.2)))))) else (bif (!y494.2.2.1) then (bif (!y494.2.2.2) then ((F_spec_l1Chance_M fu 12 y493.2.1 y493.2.2).bind fun y503 => (bif y503.1 then ((F_spec_l1Next_M fu 9 y503.2.1 y503.2.2).bind fun y504 =>
    (some (y387.1, y504.1, 0, (IntKind.wrap .i64 (167772160 + y389.1)), 0, 0, y504.2.1, y504.2.2))) else (some (y387.1, (-1), 0, (IntKind.wrap .i64 (167772160 + y389.1)), 0, 0,
    y503.2.1, y503.2.2)))) else ((F_spec_l1Chance_M fu 12 y493.2.1 y493.2.2).bind fun y505 => (bif y505.1 then ((F_spec_l1Next_M fu 9 y505.2.1 y505.2.2).bind fun y506 => (some (y387.1,
    y506.1, 0, (IntKind.wrap .i64 (167772160 + y389.1)), 0, 6, y506.2.1, y506.2.2))) else (some (y387.1, (-1), 0, (IntKind.wrap .i64 (167772160 + y389.1)), 0, 6, y505.2.1,
    y505.2.2))))) else (bif (!y494.2.2.2) then ((F_spec_l1Chance_M fu 12 y493.2.1 y493.2.2).bind fun y507 => (bif y507.1 then ((F_spec_l1Next_M fu 9 y507.2.1 y507.2.2).bind fun y508 =>
    (some (y387.1, y508.1, 0, (IntKind.wrap .i64 (167772160 + y389.1)), y493.1, 0, y508.2.1, y508.2.2))) else (some (y387.1, (-1), 0, (IntKind.wrap .i64 (167772160 + y389.1)),
    y493.1, 0, y507.2.1, y507.2.2)))) else ((F_spec_l1Chance_M fu 12 y493.2.1 y493.2.2).bind fun y509 => (bif y509.1 then ((F_spec_l1Next_M fu 9 y509.2.1 y509.2.2).bind fun y510 =>
    (some (y387.1, y510.1, 0, (IntKind.wrap .i64 (167772160 + y389.1)), y493.1, 6, y510.2.1, y510.2.2))) else (some (y387.1, (-1), 0, (IntKind.wrap .i64 (167772160 + y389.1)),
    y493.1, 6, y509.2.1, y509.2.2))))))) else (bif (!y494.2.1) then (bif (!y494.2.2.1) then (bif (!y494.2.2.2) then ((F_spec_l1Chance_M fu 12 y493.2.1 y493.2.2).bind fun y511 =>
    (bif y511.1 then ((F_spec_l1Next_M fu 9 y511.2.1 y511.2.2).bind fun y512 => (some (y387.1, y512.1, (IntKind.wrap .i64 (1 + y388.1)), 0, 0, 0, y512.2.1, y512.2.2))) else (some (y387.1,
    (-1), (IntKind.wrap .i64 (1 + y388.1)), 0, 0, 0, y511.2.1, y511.2.2)))) else ((F_spec_l1Chance_M fu 12 y493.2.1 y493.2.2).bind fun y513 => (bif y513.1 then ((F_spec_l1Next_M fu 9 y513.2.1 y513.2.2).bind fun y514 =>
    (some (y387.1, y514.1, (IntKind.wrap .i64 (1 + y388.1)), 0, 0, 6, y514.2.1, y514.2.2))) else (some (y387.1, (-1), (IntKind.wrap .i64 (1 + y388.1)), 0, 0, 6, y513.2.1,
    y513.2.2))))) else (bif (!y494.2.2.2) then ((F_spec_l1Chance_M fu 12 y493.2.1 y493.2.2).bind fun y515 => (bif y515.1 then ((F_spec_l1Next_M fu 9 y515.2.1 y515.2.2).bind fun y516 =>
    (some (y387.1, y516.1, (IntKind.wrap .i64 (1 + y388.1)), 0, y493.1, 0, y516.2.1, y516.2.2))) else (some (y387.1, (-1), (IntKind.wrap .i64 (1 + y388.1)), 0, y493.1, 0, y515.2.1,
    y515.2.2)))) else ((F_spec_l1Chance_M fu 12 y493.2.1 y493.2.2).bind fun y517 => (bif y517.1 then ((F_spec_l1Next_M fu 9 y517.2.1 y517.2.2).bind fun y518 => (some (y387.1,
    y518.1, (IntKind.wrap .i64 (1 + y388.1)), 0, y493.1, 6, y518.2.1, y518.2.2))) else (some (y387.1, (-1), (IntKind.wrap .i64 (1 + y388.1)), 0, y493.1, 6, y517.2.1, y517.2.2)))))) else
    (bif (!y494.2.2.1) then (bif (!y494.2.2.2) then ((F_spec_l1Chance_M fu 12 y493.2.1 y493.2.2).bind fun y519 => (bif y519.1 then ((F_spec_l1Next_M fu 9 y519.2.1 y519.2.2).bind fun y520 =>
    (some (y387.1, y520.1, (IntKind.wrap .i64 (1 + y388.1)), (IntKind.wrap .i64 (167772160 + y389.1)), 0, 0, y520.2.1, y520.2.2))) else (some (y387.1, (-1), (IntKind.wrap .i64 (1 + y388.1)),
    (IntKind.wrap .i64 (167772160 + y389.1)), 0, 0, y519.2.1, y519.2.2)))) else ((F_spec_l1Chance_M fu 12 y493.2.1 y493.2.2).bind fun y521 => (bif y521.1 then ((F_spec_l1Next_M fu 9 y521.2.1 y521.2.2).bind fun y522 =>
    (some (y387.1, y522.1, (IntKind.wrap .i64 (1 + y388.1)), (IntKind.wrap .i64 (167772160 + y389.1)), 0, 6, y522.2.1, y522.2.2))) else (some (y387.1, (-1), (IntKind.wrap .i64 (1 + y388.1)),
    (IntKind.wrap .i64 (167772160 + y389.1)), 0, 6, y521.2.1, y521.2.2))))) else (bif (!y494.2.2.2) then ((F_spec_l1Chance_M fu 12 y493.2.1 y493.2.2).bind fun y523 => (bif y523.1 then
    ((F_spec_l1Next_M fu 9 y523.2.1 y523.2.2).bind fun y524 => (some (y387.1, y524.1, (IntKind.wrap .i64 (1 + y388.1)), (IntKind.wrap .i64 (167772160 + y389.1)), y493.1, 0,
    y524.2.1, y524.2.2))) else (some (y387.1, (-1), (IntKind.wrap .i64 (1 + y388.1)), (IntKind.wrap .i64 (167772160 + y389.1)), y493.1, 0, y523.2.1, y523.2.2)))) else
    ((F_spec_l1Chance_M fu 12 y493.2.1 y493.2.2).bind fun y525 => (bif y525.1 then ((F_spec_l1Next_M fu 9 y525.2.1 y525.2.2).bind fun y526 => (some (y387.1, y526.1, (IntKind.wrap .i64 (1 + y388.1)),
    (IntKind.wrap .i64 (167772160 + y389.1)), y493.1, 6, y526.2.1, y526.2.2))) else (some (y387.1, (-1), (IntKind.wrap .i64 (1 + y388.1)), (IntKind.wrap .i64 (167772160 + y389.1)),
    y493.1, 6, y525.2.1, y525.2.2)))))))))) else ((F_spec_l5Needs fu y387.1).bind fun y527 => (bif (!y527.1) then (bif (!y527.2.1) then (bif (!y527.2.2.1) then (bif (!y527.2.2.2) then
    ((F_spec_l1Chance_M fu 12 y390.2.1 y390.2.2).bind fun y528 => (bif y528.1 then ((F_spec_l1Next_M fu 9 y528.2.1 y528.2.2).bind fun y529 => (some (y387.1, y529.1, 0, 0, 0, 0,
    y529.2.1, y529.2.2))) else (some (y387.1, (-1), 0, 0, 0, 0, y528.2.1, y528.2.2)))) else ((F_spec_l1Chance_M fu 12 y390.2.1 y390.2.2).bind fun y530 => (bif y530.1 then
    ((F_spec_l1Next_M fu 9 y530.2.1 y530.2.2).bind fun y531 => (some (y387.1, y531.1, 0, 0, 0, 6, y531.2.1, y531.2.2))) else (some (y387.1, (-1), 0, 0, 0, 6, y530.2.1, y530.2.2))))) else
    (bif (!y527.2.2.2) then ((F_spec_l1Chance_M fu 12 y390.2.1 y390.2.2).bind fun y532 => (bif y532.1 then ((F_spec_l1Next_M fu 9 y532.2.1 y532.2.2).bind fun y533 => (some (y387.1,
    y533.1, 0, 0, y390.1, 0, y533.2.1, y533.2.2))) else (some (y387.1, (-1), 0, 0, y390.1, 0, y532.2.1, y532.2.2)))) else ((F_spec_l1Chance_M fu 12 y390.2.1 y390.2.2).bind fun y534 =>
    (bif y534.1 then ((F_spec_l1Next_M fu 9 y534.2.1 y534.2.2).bind fun y535 => (some (y387.1, y535.1, 0, 0, y390.1, 6, y535.2.1, y535.2.2))) else (some (y387.1, (-1), 0, 0, y390.1,
    6, y534.2.1, y534.2.2)))))) else (bif (!y527.2.2.1) then (bif (!y527.2.2.2) then ((F_spec_l1Chance_M fu 12 y390.2.1 y390.2.2).bind fun y536 => (bif y536.1 then ((F_spec_l1Next_M fu 9 y536.2.1 y536.2.2).bind fun y537 =>
    (some (y387.1, y537.1, 0, (IntKind.wrap .i64 (167772160 + y389.1)), 0, 0, y537.2.1, y537.2.2))) else (some (y387.1, (-1), 0, (IntKind.wrap .i64 (167772160 + y389.1)), 0, 0,
    y536.2.1, y536.2.2)))) else ((F_spec_l1Chance_M fu 12 y390.2.1 y390.2.2).bind fun y538 => (bif y538.1 then ((F_spec_l1Next_M fu 9 y538.2.1 y538.2.2).bind fun y539 => (some (y387.1,
    y539.1, 0, (IntKind.wrap .i64 (167772160 + y389.1)), 0, 6, y539.2.1, y539.2.2))) else (some (y387.1, (-1), 0, (IntKind.wrap .i64 (167772160 + y389.1)), 0, 6, y538.2.1,
    y538.2.2))))) else (bif (!y527.2.2.2) then ((F_spec_l1Chance_M fu 12 y390.2.1 y390.2.2).bind fun y540 => (bif y540.1 then ((F_spec_l1Next_M fu 9 y540.2.1 y540.2.2).bind fun y541 =>
    (some (y387.1, y541.1, 0, (IntKind.wrap .i64 (167772160 + y389.1)), y390.1, 0, y541.2.1, y541.2.2))) else (some (y387.1, (-1), 0, (IntKind.wrap .i64 (167772160 + y389.1)),
    y390.1, 0, y540.2.1, y540.2.2)))) else ((F_spec_l1Chance_M fu 12 y390.2.1 y390.2.2).bind fun y542 => (bif y542.1 then ((F_spec_l1Next_M fu 9 y542.2.1 y542.2.2).bind fun y543 =>
    (some (y387.1, y543.1, 0, (IntKind.wrap .i64 (167772160 + y389.1)), y390.1, 6, y543.2.1, y543.2.2))) else (some (y387.1, (-1), 0, (IntKind.wrap .i64 (167772160 + y389.1)),
    y390.1, 6, y542.2.1, y542.2.2))))))) else (bif (!y527.2.1) then (bif (!y527.2.2.1) then (bif (!y527.2.2.2) then ((F_spec_l1Chance_M fu 12 y390.2.1 y390.2.2).bind fun y544 =>
    (bif y544.1 then ((F_spec_l1Next_M fu 9 y544.2.1 y544.2.2).bind fun y545 => (some (y387.1, y545.1, (IntKind.wrap .i64 (1 + y388.1)), 0, 0, 0, y545.2.1, y545.2.2))) else (some (y387.1,
    (-1), (IntKind.wrap .i64 (1 + y388.1)), 0, 0, 0, y544.2.1, y544.2.2)))) else ((F_spec_l1Chance_M fu 12 y390.2.1 y390.2.2).bind fun y546 => (bif y546.1 then ((F_spec_l1Next_M fu 9 y546.2.1 y546.2.2).bind fun y547 =>
    (some (y387.1, y547.1, (IntKind.wrap .i64 (1 + y388.1)), 0, 0, 6, y547.2.1, y547.2.2))) else (some (y387.1, (-1), (IntKind.wrap .i64 (1 + y388.1)), 0, 0, 6, y546.2.1,
    y546.2.2))))) else (bif (!y527.2.2.2) then ((F_spec_l1Chance_M fu 12 y390.2.1 y390.2.2).bind fun y548 => (bif y548.1 then ((F_spec_l1Next_M fu 9 y548.2.1 y548.2.2).bind fun y549 =>
    (some (y387.1, y549.1, (IntKind.wrap .i64 (1 + y388.1)), 0, y390.1, 0, y549.2.1, y549.2.2))) else (some (y387.1, (-1), (IntKind.wrap .i64 (1 + y388.1)), 0, y390.1, 0, y548.2.1,
    y548.2.2)))) else ((F_spec_l1Chance_M fu 12 y390.2.1 y390.2.2).bind fun y550 => (bif y550.1 then ((F_spec_l1Next_M fu 9 y550.2.1 y550.2.2).bind fun y551 => (some (y387.1,
    y551.1, (IntKind.wrap .i64 (1 + y388.1)), 0, y390.1, 6, y551.2.1, y551.2.2))) else (some (y387.1, (-1), (IntKind.wrap .i64 (1 + y388.1)), 0, y390.1, 6, y550.2.1, y550.2.2)))))) else
    (bif (!y527.2.2.1) then (bif (!y527.2.2.2) then ((F_spec_l1Chance_M fu 12 y390.2.1 y390.2.2).bind fun y552 => (bif y552.1 then ((F_spec_l1Next_M fu 9 y552.2.1 y552.2.2).bind fun y553 =>
    (some (y387.1, y553.1, (IntKind.wrap .i64 (1 + y388.1)), (IntKind.wrap .i64 (167772160 + y389.1)), 0, 0, y553.2.1, y553.2.2))) else (some (y387.1, (-1), (IntKind.wrap .i64 (1 + y388.1)),
    (IntKind.wrap .i64 (167772160 + y389.1)), 0, 0, y552.2.1, y552.2.2)))) else ((F_spec_l1Chance_M fu 12 y390.2.1 y390.2.2).bind fun y554 => (bif y554.1 then ((F_spec_l1Next_M fu 9 y554.2.1 y554.2.2).bind fun y555 =>
    (some (y387.1, y555.1, (IntKind.wrap .i64 (1 + y388.1)), (IntKind.wrap .i64 (167772160 + y389.1)), 0, 6, y555.2.1, y555.2.2))) else (some (y387.1, (-1), (IntKind.wrap .i64 (1 + y388.1)),
    (IntKind.wrap .i64 (167772160 + y389.1)), 0, 6, y554.2.1, y554.2.2))))) else (bif (!y527.2.2.2) then ((F_spec_l1Chance_M fu 12 y390.2.1 y390.2.2).bind fun y556 => (bif y556.1 then
    ((F_spec_l1Next_M fu 9 y556.2.1 y556.2.2).bind fun y557 => (some (y387.1, y557.1, (IntKind.wrap .i64 (1 + y388.1)), (IntKind.wrap .i64 (167772160 + y389.1)), y390.1, 0,
    y557.2.1, y557.2.2))) else (some (y387.1, (-1), (IntKind.wrap .i64 (1 + y388.1)), (IntKind.wrap .i64 (167772160 + y389.1)), y390.1, 0, y556.2.1, y556.2.2)))) else
    ((F_spec_l1Chance_M fu 12 y390.2.1 y390.2.2).bind fun y558 => (bif y558.1 then ((F_spec_l1Next_M fu 9 y558.2.1 y558.2.2).bind fun y559 => (some (y387.1, y559.1, (IntKind.wrap .i64 (1 + y388.1)),
    (IntKind.wrap .i64 (167772160 + y389.1)), y390.1, 6, y559.2.1, y559.2.2))) else (some (y387.1, (-1), (IntKind.wrap .i64 (1 + y388.1)), (IntKind.wrap .i64 (167772160 + y389.1)),
    y390.1, 6, y558.2.1, y558.2.2)))))))))))))))))
def pcf_spec_l5Cmd_M (fu : Nat) (f : Nat) (xs : List (D RT den)) : Option (Out RT den) := match f with | 53 => S_spec_l5Needs fu xs | _ => none
def pcx_spec_l5Cmd_M (fu : Nat) (f : Nat) (xs : List (D RT den)) (ins : List (Ob RT den)) : Option (OutX RT den) := match f with | 22 => S_spec_l1Chance_M fu xs ins | 32 => S_spec_l1Next_M fu xs ins | 44 => S_spec_l1Pick_M fu xs ins | _ => none
def pc_spec_l5Cmd_M (fu : Nat) : Pc RT den := ⟨pcf_spec_l5Cmd_M fu, fun f => match f with | 22 => true | 32 => true | 44 => true | _ => false, fun f => match f with | 22 => true | 32 => true | 44 => true | _ => false, pcx_spec_l5Cmd_M fu⟩
def msk_spec_l5Cmd_M (b : Nat) : List Nat := []
def lp_spec_l5Cmd_M (fu : Nat) : Lp RT den (Int × Int × Int × Int × Int × Int × (Sl Int) × Int) := fun b s k => none
def pso_spec_l5Cmd_M : List (Pat RT) := [.agg [(.int .i64), (.int .i64), (.int .i64), (.int .i64), (.int .i64), (.int .i64)]]
def oso_spec_l5Cmd_M : List (OP RT) := [.box true [(.rs .u8), (.int .i64)]]
def conv_spec_l5Cmd_M (r : Raw den pso_spec_l5Cmd_M oso_spec_l5Cmd_M) : Int × Int × Int × Int × Int × Int × (Sl Int) × Int := (r.1.1.1, r.1.1.2.1, r.1.1.2.2.1, r.1.1.2.2.2.1, r.1.1.2.2.2.2.1, r.1.1.2.2.2.2.2.1, r.2.1.1, r.2.1.2.1)
def enc_spec_l5Cmd_M (y : Int × Int × Int × Int × Int × Int × (Sl Int) × Int) : D RT den × List (Ob RT den) := ((.agg [(.int .i64 y.1), (.int .i64 y.2.1), (.int .i64 y.2.2.1), (.int .i64 y.2.2.2.1), (.int .i64 y.2.2.2.2.1), (.int .i64 y.2.2.2.2.2.1)]), [(.box true [(.rs y.2.2.2.2.2.2.1.z .u8 y.2.2.2.2.2.2.1.n y.2.2.2.2.2.2.1.f), (.int .i64 y.2.2.2.2.2.2.2)])])
def out_spec_l5Cmd_M (d : D RT den) (os : List (Ob RT den)) : Option (Int × Int × Int × Int × Int × Int × (Sl Int) × Int) := (unSt pso_spec_l5Cmd_M oso_spec_l5Cmd_M ⟨[d], os⟩).bind fun v => some (conv_spec_l5Cmd_M v.1)
theorem out_spec_l5Cmd_M_enc (d : D RT den) (os : List (Ob RT den)) (y : Int × Int × Int × Int × Int × Int × (Sl Int) × Int) (h : out_spec_l5Cmd_M d os = some y) : d = (enc_spec_l5Cmd_M y).1 ∧ os = (enc_spec_l5Cmd_M y).2 :=
  outM (conv := conv_spec_l5Cmd_M) (enc := enc_spec_l5Cmd_M) (fun raw => by kernel_rfl) h
theorem ev_spec_l5Cmd_M (fu : Nat) (b0_0 : (Sl Int)) (b0_1 : Int) : evFunM E false (pc_spec_l5Cmd_M fu) msk_spec_l5Cmd_M (lp_spec_l5Cmd_M fu) out_spec_l5Cmd_M 48 [(.ref 0 0)] [(.box true [(.rs b0_0.z .u8 b0_0.n b0_0.f), (.int .i64 b0_1)])] = F_spec_l5Cmd_M fu b0_0 b0_1 := by kernel_rfl
noncomputable def body_spec_l5Cmd_M : Code := Try.f48.body.getD .skip
theorem lpok_spec_l5Cmd_M (fu : Nat) : LpOk E (pc_spec_l5Cmd_M fu) msk_spec_l5Cmd_M (lp_spec_l5Cmd_M fu) (loops 0 body_spec_l5Cmd_M) := by
  have h : loops 0 body_spec_l5Cmd_M = [] := by kernel_rfl
  rw [h]; intro p hp; cases hp
def S_spec_l5Cmd_M (fu : Nat) (xs : List (D RT den)) (ins : List (Ob RT den)) : Option (OutX RT den) := match xs, ins with | [.ref 0 0], [.box true [.rs za1000_0 .u8 na1000_0 fa1000_0, .int .i64 a1001_0]] => some ⟨Int × Int × Int × Int × Int × Int × (Sl Int) × Int, F_spec_l5Cmd_M fu (⟨za1000_0, na1000_0, fa1000_0⟩ : (Sl Int)) a1001_0, enc_spec_l5Cmd_M⟩ | _, _ => none
theorem hpc_spec_l5Cmd_M (fu : Nat) : ∀ f xs o, pcf_spec_l5Cmd_M fu f xs = some o → ∀ y, o.x = some y → Good E Try.prog f xs (o.g y) := by
  intro f xs o h
  unfold pcf_spec_l5Cmd_M at h
  split at h
  · exact good_spec_l5Needs fu xs o h
  · cases h
theorem hpx_spec_l5Cmd_M (fu : Nat) : ∀ f xs ins o, pcx_spec_l5Cmd_M fu f xs ins = some o → ∀ y, o.x = some y → GoodX E Try.prog f xs ins (o.g y).1 (o.g y).2 := by
  intro f xs ins o h
  unfold pcx_spec_l5Cmd_M at h
  split at h
  · exact good_spec_l1Chance_M fu xs ins o h
  · exact good_spec_l1Next_M fu xs ins o h
  · exact good_spec_l1Pick_M fu xs ins o h
  · cases h
theorem goodv_spec_l5Cmd_M (fu : Nat) (b0_0 : (Sl Int)) (b0_1 : Int) (y : Int × Int × Int × Int × Int × Int × (Sl Int) × Int) (hy : F_spec_l5Cmd_M fu b0_0 b0_1 = some y) : GoodX E Try.prog 48 [(.ref 0 0)] [(.box true [(.rs b0_0.z .u8 b0_0.n b0_0.f), (.int .i64 b0_1)])] (enc_spec_l5Cmd_M y).1 (enc_spec_l5Cmd_M y).2 :=
  funM_good (ke := false) E_ok (pc_good (pc := pc_spec_l5Cmd_M fu) (hpc_spec_l5Cmd_M fu) (hpx_spec_l5Cmd_M fu)) (fn := Try.f48) (c := body_spec_l5Cmd_M) (out := out_spec_l5Cmd_M) (y := y) (by kernel_rfl) (by kernel_rfl) (by kernel_rfl) (lpok_spec_l5Cmd_M fu) (by kernel_rfl) (Nat.le_of_ble_eq_true (by kernel_rfl)) (fun d os hd => out_spec_l5Cmd_M_enc d os _ hd) ((ev_spec_l5Cmd_M fu b0_0 b0_1).trans hy)
theorem good_spec_l5Cmd_M (fu : Nat) : ∀ xs ins o, S_spec_l5Cmd_M fu xs ins = some o → ∀ y, o.x = some y → GoodX E Try.prog 48 xs ins (o.g y).1 (o.g y).2 := by
  intro xs ins o h y hy
  unfold S_spec_l5Cmd_M at h
  split at h
  · rename_i za1000_0 na1000_0 fa1000_0 a1001_0
    cases h
    exact goodv_spec_l5Cmd_M fu (⟨za1000_0, na1000_0, fa1000_0⟩ : (Sl Int)) a1001_0 y hy
  · cases h

/-! spec.l7Entry -/
def F_spec_l7Entry_M (fu : Nat) (term_1 : Int) (b0_1 : (Sl Int)) (b0_2 : Int) : Option (Int × Int × Int × Int × Int × Int × Int × Int × Int × (Sl Int) × Int) :=
  ((F_spec_l1Chance_M fu 5 b0_1 b0_2).bind fun y384 => (bif y384.1 then (some (term_1, 0, 0, 0, 0, 0, 0, 0, 0, y384.2.1, y384.2.2)) else ((F_spec_l1Next_M fu 3 y384.2.1 y384.2.2).bind fun y385 =>
    ((F_spec_l1Next_M fu 6 y385.2.1 y385.2.2).bind fun y386 => ((F_spec_l5Cmd_M fu y386.2.1 y386.2.2).bind fun y560 => (some (term_1, (IntKind.wrap .i64 (1 + y385.1)), (IntKind.wrap .i64 (1 + y386.1)),
    y560.1, y560.2.1, y560.2.2.1, y560.2.2.2.1, y560.2.2.2.2.1, y560.2.2.2.2.2.1, y560.2.2.2.2.2.2.1, y560.2.2.2.2.2.2.2)))))))
def pcf_spec_l7Entry_M (fu : Nat) (f : Nat) (xs : List (D RT den)) : Option (Out RT den) := none
def pcx_spec_l7Entry_M (fu : Nat) (f : Nat) (xs : List (D RT den)) (ins : List (Ob RT den)) : Option (OutX RT den) := match f with | 22 => S_spec_l1Chance_M fu xs ins | 32 => S_spec_l1Next_M fu xs ins | 48 => S_spec_l5Cmd_M fu xs ins | _ => none
def pc_spec_l7Entry_M (fu : Nat) : Pc RT den := ⟨pcf_spec_l7Entry_M fu, fun f => match f with | 22 => true | 32 => true | 48 => true | _ => false, fun f => match f with | 22 => true | 32 => true | 48 => true | _ => false, pcx_spec_l7Entry_M fu⟩
def msk_spec_l7Entry_M (b : Nat) : List Nat := []
def lp_spec_l7Entry_M (fu : Nat) : Lp RT den (Int × Int × Int × Int × Int × Int × Int × Int × Int × (Sl Int) × Int) := fun b s k => none
def pso_spec_l7Entry_M : List (Pat RT) := [.agg [(.int .i64), (.int .i64), (.int .i64), (.int .i64), (.int .i64), (.int .i64), (.int .i64), (.int .i64), (.int .i64)]]
def oso_spec_l7Entry_M : List (OP RT) := [.box true [(.rs .u8), (.int .i64)]]
def conv_spec_l7Entry_M (r : Raw den pso_spec_l7Entry_M oso_spec_l7Entry_M) : Int × Int × Int × Int × Int × Int × Int × Int × Int × (Sl Int) × Int := (r.1.1.1, r.1.1.2.1, r.1.1.2.2.1, r.1.1.2.2.2.1, r.1.1.2.2.2.2.1, r.1.1.2.2.2.2.2.1, r.1.1.2.2.2.2.2.2.1, r.1.1.2.2.2.2.2.2.2.1, r.1.1.2.2.2.2.2.2.2.2.1, r.2.1.1, r.2.1.2.1)
def enc_spec_l7Entry_M (y : Int × Int × Int × Int × Int × Int × Int × Int × Int × (Sl Int) × Int) : D RT den × List (Ob RT den) := ((.agg [(.int .i64 y.1), (.int .i64 y.2.1), (.int .i64 y.2.2.1), (.int .i64 y.2.2.2.1), (.int .i64 y.2.2.2.2.1), (.int .i64 y.2.2.2.2.2.1), (.int .i64 y.2.2.2.2.2.2.1), (.int .i64 y.2.2.2.2.2.2.2.1), (.int .i64 y.2.2.2.2.2.2.2.2.1)]), [(.box true [(.rs y.2.2.2.2.2.2.2.2.2.1.z .u8 y.2.2.2.2.2.2.2.2.2.1.n y.2.2.2.2.2.2.2.2.2.1.f), (.int .i64 y.2.2.2.2.2.2.2.2.2.2)])])
def out_spec_l7Entry_M (d : D RT den) (os : List (Ob RT den)) : Option (Int × Int × Int × Int × Int × Int × Int × Int × Int × (Sl Int) × Int) := (unSt pso_spec_l7Entry_M oso_spec_l7Entry_M ⟨[d], os⟩).bind fun v => some (conv_spec_l7Entry_M v.1)
theorem out_spec_l7Entry_M_enc (d : D RT den) (os : List (Ob RT den)) (y : Int × Int × Int × Int × Int × Int × Int × Int × Int × (Sl Int) × Int) (h : out_spec_l7Entry_M d os = some y) : d = (enc_spec_l7Entry_M y).1 ∧ os = (enc_spec_l7Entry_M y).2 :=
  outM (conv := conv_spec_l7Entry_M) (enc := enc_spec_l7Entry_M) (fun raw => by kernel_rfl) h
theorem ev_spec_l7Entry_M (fu : Nat) (term_1 : Int) (b0_1 : (Sl Int)) (b0_2 : Int) : evFunM E false (pc_spec_l7Entry_M fu) msk_spec_l7Entry_M (lp_spec_l7Entry_M fu) out_spec_l7Entry_M 33 [(.ref 0 0), (.int .i64 term_1)] [(.box true [(.rs b0_1.z .u8 b0_1.n b0_1.f), (.int .i64 b0_2)])] = F_spec_l7Entry_M fu term_1 b0_1 b0_2 := by kernel_rfl
noncomputable def body_spec_l7Entry_M : Code := Try.f33.body.getD .skip
theorem lpok_spec_l7Entry_M (fu : Nat) : LpOk E (pc_spec_l7Entry_M fu) msk_spec_l7Entry_M (lp_spec_l7Entry_M fu) (loops 0 body_spec_l7Entry_M) := by
  have h : loops 0 body_spec_l7Entry_M = [] := by kernel_rfl
  rw [h]; intro p hp; cases hp
def S_spec_l7Entry_M (fu : Nat) (xs : List (D RT den)) (ins : List (Ob RT den)) : Option (OutX RT den) := match xs, ins with | [.ref 0 0, .int .i64 a1_0], [.box true [.rs za1000_0 .u8 na1000_0 fa1000_0, .int .i64 a1001_0]] => some ⟨Int × Int × Int × Int × Int × Int × Int × Int × Int × (Sl Int) × Int, F_spec_l7Entry_M fu a1_0 (⟨za1000_0, na1000_0, fa1000_0⟩ : (Sl Int)) a1001_0, enc_spec_l7Entry_M⟩ | _, _ => none
theorem hpc_spec_l7Entry_M (fu : Nat) : ∀ f xs o, pcf_spec_l7Entry_M fu f xs = some o → ∀ y, o.x = some y → Good E Try.prog f xs (o.g y) := by
  intro f xs o h
  cases h
theorem hpx_spec_l7Entry_M (fu : Nat) : ∀ f xs ins o, pcx_spec_l7Entry_M fu f xs ins = some o → ∀ y, o.x = some y → GoodX E Try.prog f xs ins (o.g y).1 (o.g y).2 := by
  intro f xs ins o h
  unfold pcx_spec_l7Entry_M at h
  split at h
  · exact good_spec_l1Chance_M fu xs ins o h
  · exact good_spec_l1Next_M fu xs ins o h
  · exact good_spec_l5Cmd_M fu xs ins o h
  · cases h
theorem goodv_spec_l7Entry_M (fu : Nat) (term_1 : Int) (b0_1 : (Sl Int)) (b0_2 : Int) (y : Int × Int × Int × Int × Int × Int × Int × Int × Int × (Sl Int) × Int) (hy : F_spec_l7Entry_M fu term_1 b0_1 b0_2 = some y) : GoodX E Try.prog 33 [(.ref 0 0), (.int .i64 term_1)] [(.box true [(.rs b0_1.z .u8 b0_1.n b0_1.f), (.int .i64 b0_2)])] (enc_spec_l7Entry_M y).1 (enc_spec_l7Entry_M y).2 :=
  funM_good (ke := false) E_ok (pc_good (pc := pc_spec_l7Entry_M fu) (hpc_spec_l7Entry_M fu) (hpx_spec_l7Entry_M fu)) (fn := Try.f33) (c := body_spec_l7Entry_M) (out := out_spec_l7Entry_M) (y := y) (by kernel_rfl) (by kernel_rfl) (by kernel_rfl) (lpok_spec_l7Entry_M fu) (by kernel_rfl) (Nat.le_of_ble_eq_true (by kernel_rfl)) (fun d os hd => out_spec_l7Entry_M_enc d os _ hd) ((ev_spec_l7Entry_M fu term_1 b0_1 b0_2).trans hy)
theorem good_spec_l7Entry_M (fu : Nat) : ∀ xs ins o, S_spec_l7Entry_M fu xs ins = some o → ∀ y, o.x = some y → GoodX E Try.prog 33 xs ins (o.g y).1 (o.g y).2 := by
  intro xs ins o h y hy
  unfold S_spec_l7Entry_M at h
  split at h
  · rename_i a1_0 za1000_0 na1000_0 fa1000_0 a1001_0
    cases h
    exact goodv_spec_l7Entry_M fu a1_0 (⟨za1000_0, na1000_0, fa1000_0⟩ : (Sl Int)) a1001_0 y hy
  · cases h

/-! spec.l7Log -/
def F_spec_l7Log_M_B0 {ρ : Type} (fu : Nat) (k0 : Nat → (Sl Int) → Int → Nat → (Nat → S_impl_Entry) → Option ρ) (out3_0 : Nat) (term4_1 : Int) (k5_2 : Int) (o0_3 : (Sl Int)) (o0_4 : Int) (on1_5 : Nat) (of1_6 : (Nat → S_impl_Entry)) (go : Nat → Int → Int → (Sl Int) → Int → Nat → (Nat → S_impl_Entry) → Option ρ) : Option ρ :=
  (bif (decide (k5_2 > 0)) then ((F_spec_l1Chance_M fu 3 o0_3 o0_4).bind fun y382 => (bif y382.1 then ((F_spec_l1Next_M fu 2 y382.2.1 y382.2.2).bind fun y383 => ((F_spec_l7Entry_M fu (IntKind.wrap .i64 ((IntKind.wrap .i64 (term4_1 + 1)) + y383.1)) y383.2.1 y383.2.2).bind fun y561 =>
    (bif (decide ((out3_0 + 1) ≤ 9223372036854775807) && decide ((out3_0 + 1) * 72 ≤ 140737488355328)) then (go (out3_0 + 1) (IntKind.wrap .i64 ((IntKind.wrap .i64 (term4_1 + 1)) + y383.1)) (IntKind.wrap .i64 (k5_2 - 1)) y561.2.2.2.2.2.2.2.2.2.1 y561.2.2.2.2.2.2.2.2.2.2 (out3_0 + 1) (fun i =>
    if i < out3_0 then (of1_6 i) else ((fun i => [(⟨y561.1, y561.2.1, y561.2.2.1, (⟨y561.2.2.2.1, y561.2.2.2.2.1, y561.2.2.2.2.2.1, y561.2.2.2.2.2.2.1, y561.2.2.2.2.2.2.2.1,
    y561.2.2.2.2.2.2.2.2.1⟩ : S_impl_Cmd)⟩ : S_impl_Entry)].getD i (dflt .impl_Entry)) (i - out3_0)))) else none))) else ((F_spec_l7Entry_M fu term4_1 y382.2.1 y382.2.2).bind fun y562 =>
    (bif (decide ((out3_0 + 1) ≤ 9223372036854775807) && decide ((out3_0 + 1) * 72 ≤ 140737488355328)) then (go (out3_0 + 1) term4_1 (IntKind.wrap .i64 (k5_2 - 1)) y562.2.2.2.2.2.2.2.2.2.1 y562.2.2.2.2.2.2.2.2.2.2 (out3_0 + 1) (fun i =>
    if i < out3_0 then (of1_6 i) else ((fun i => [(⟨y562.1, y562.2.1, y562.2.2.1, (⟨y562.2.2.2.1, y562.2.2.2.2.1, y562.2.2.2.2.2.1, y562.2.2.2.2.2.2.1, y562.2.2.2.2.2.2.2.1,
    y562.2.2.2.2.2.2.2.2.1⟩ : S_impl_Cmd)⟩ : S_impl_Entry)].getD i (dflt .impl_Entry)) (i - out3_0)))) else none)))) else (k0 out3_0 o0_3 o0_4 on1_5 of1_6))
def F_spec_l7Log_M (fu : Nat) (b0_0 : (Sl Int)) (b0_1 : Int) : Option (Nat × (Sl Int) × Int × Nat × (Nat → S_impl_Entry)) :=
  ((F_spec_l1Next_M fu 7 b0_0 b0_1).bind fun y377 => ((F_spec_l1Next_M fu 7 y377.2.1 y377.2.2).bind fun y378 => ((F_spec_l1Pick_M fu (⟨(some false), 3, (fun i => [y377.1, y378.1,
    40].getD i (dflt .i64))⟩ : (Sl Int)) y378.2.1 y378.2.2).bind fun y380 => (L (fun w0 go0 => F_spec_l7Log_M_B0 fu  (fun z563 z564 z565 z566 z567 => (some (z563, z564, z565, z563,
    z567))) w0.1 w0.2.1 w0.2.2.1 w0.2.2.2.1 w0.2.2.2.2.1 w0.2.2.2.2.2.1 w0.2.2.2.2.2.2 (fun q0 q1 q2 q3 q4 q5 q6 => go0 (q0, q1, q2, q3, q4, q5, q6))) fu ((0, 1, y380.1, y380.2.1,
    y380.2.2, 0, (fun _ => dflt .impl_Entry)) : Nat × Int × Int × (Sl Int) × Int × Nat × (Nat → S_impl_Entry))))))
def pcf_spec_l7Log_M (fu : Nat) (f : Nat) (xs : List (D RT den)) : Option (Out RT den) := none
def pcx_spec_l7Log_M (fu : Nat) (f : Nat) (xs : List (D RT den)) (ins : List (Ob RT den)) : Option (OutX RT den) := match f with | 22 => S_spec_l1Chance_M fu xs ins | 32 => S_spec_l1Next_M fu xs ins | 33 => S_spec_l7Entry_M fu xs ins | 44 => S_spec_l1Pick_M fu xs ins | _ => none
def pc_spec_l7Log_M (fu : Nat) : Pc RT den := ⟨pcf_spec_l7Log_M fu, fun f => match f with | 22 => true | 32 => true | 33 => true | 44 => true | _ => false, fun f => match f with | 22 => true | 32 => true | 33 => true | 44 => true | _ => false, pcx_spec_l7Log_M fu⟩
def msk_spec_l7Log_M (b : Nat) : List Nat := match b with | 0 => [1, 2, 6, 7, 8, 9, 10, 11, 12, 13, 14, 15, 16, 17, 18, 19, 20, 21, 22, 23, 24, 25, 26, 27, 28, 29, 30, 31] | 100000 => [0, 1, 4, 5, 6, 7, 8, 9, 10, 11, 12, 13, 14, 15, 16, 17, 18, 19, 20, 21, 22, 23, 24, 25, 26, 27, 28, 29, 30, 31] | 300000 => [3] | _ => []
def ps_spec_l7Log_M_0 : List (Pat RT) := [.flat (.ref 0 0), .flat .dead, .flat .dead, .flat (.os 1), .flat (.int .i64), .flat (.int .i64), .flat .dead, .flat .dead, .flat .dead, .flat .dead, .flat .dead, .flat .dead, .flat .dead, .flat .dead, .flat .dead, .flat .dead, .flat .dead, .flat .dead, .flat .dead, .flat .dead, .flat .dead, .flat .dead, .flat .dead, .flat .dead, .flat .dead, .flat .dead, .flat .dead, .flat .dead, .flat .dead, .flat .dead, .flat .dead, .flat .dead]
def os_spec_l7Log_M_0 : List (OP RT) := [.box true [(.rs .u8), (.int .i64)], .row false .impl_Entry]
def conv_spec_l7Log_M_0 (r : Raw den ps_spec_l7Log_M_0 os_spec_l7Log_M_0) : (Unit) × (Nat × Int × Int × (Sl Int) × Int × Nat × (Nat → S_impl_Entry)) := ((), (r.1.2.2.2.1, r.1.2.2.2.2.1, r.1.2.2.2.2.2.1, r.2.1.1, r.2.1.2.1, r.2.2.1.1, r.2.2.1.2))
def back_spec_l7Log_M_0 (c : Unit) (w : Nat × Int × Int × (Sl Int) × Int × Nat × (Nat → S_impl_Entry)) : St RT den := ⟨[(.ref 0 0), .dead, .dead, (.os 1 w.1), (.int .i64 w.2.1), (.int .i64 w.2.2.1), .dead, .dead, .dead, .dead, .dead, .dead, .dead, .dead, .dead, .dead, .dead, .dead, .dead, .dead, .dead, .dead, .dead, .dead, .dead, .dead, .dead, .dead, .dead, .dead, .dead, .dead], [(.box true [(.rs w.2.2.2.1.z .u8 w.2.2.2.1.n w.2.2.2.1.f), (.int .i64 w.2.2.2.2.1)]), (.row false .impl_Entry w.2.2.2.2.2.1 w.2.2.2.2.2.2)]⟩
def Bk_spec_l7Log_M_0 {ρ : Type} (fu : Nat) (c : Unit) (k : Ex → St RT den → Option ρ) (w : Nat × Int × Int × (Sl Int) × Int × Nat × (Nat → S_impl_Entry)) (go : (Nat × Int × Int × (Sl Int) × Int × Nat × (Nat → S_impl_Entry)) → Option ρ) : Option ρ := F_spec_l7Log_M_B0 fu  (fun a0 a1 a2 a3 a4 => k (.exit 0) ⟨[.dead, .dead, .dead, (.os 1 a0), .dead, .dead, .dead, .dead, .dead, .dead, .dead, .dead, .dead, .dead, .dead, .dead, .dead, .dead, .dead, .dead, .dead, .dead, .dead, .dead, .dead, .dead, .dead, .dead, .dead, .dead, .dead, .dead], [(.box true [(.rs a1.z .u8 a1.n a1.f), (.int .i64 a2)]), (.row false .impl_Entry a3 a4)]⟩) w.1 w.2.1 w.2.2.1 w.2.2.2.1 w.2.2.2.2.1 w.2.2.2.2.2.1 w.2.2.2.2.2.2 (fun q0 q1 q2 q3 q4 q5 q6 => go (q0, q1, q2, q3, q4, q5, q6))
def lp_spec_l7Log_M (fu : Nat) : Lp RT den (Nat × (Sl Int) × Int × Nat × (Nat → S_impl_Entry)) := fun b s k => match b with | 0 => handle ps_spec_l7Log_M_0 os_spec_l7Log_M_0 conv_spec_l7Log_M_0 (Bk_spec_l7Log_M_0 fu) fu s k | _ => none
def pso_spec_l7Log_M : List (Pat RT) := [.flat (.os 1)]
def oso_spec_l7Log_M : List (OP RT) := [.box true [(.rs .u8), (.int .i64)], .row false .impl_Entry]
def conv_spec_l7Log_M (r : Raw den pso_spec_l7Log_M oso_spec_l7Log_M) : Nat × (Sl Int) × Int × Nat × (Nat → S_impl_Entry) := (r.1.1, r.2.1.1, r.2.1.2.1, r.2.2.1.1, r.2.2.1.2)
def enc_spec_l7Log_M (y : Nat × (Sl Int) × Int × Nat × (Nat → S_impl_Entry)) : D RT den × List (Ob RT den) := ((.os 1 y.1), [(.box true [(.rs y.2.1.z .u8 y.2.1.n y.2.1.f), (.int .i64 y.2.2.1)]), (.row false .impl_Entry y.2.2.2.1 y.2.2.2.2)])
def out_spec_l7Log_M (d : D RT den) (os : List (Ob RT den)) : Option (Nat × (Sl Int) × Int × Nat × (Nat → S_impl_Entry)) := (unSt pso_spec_l7Log_M oso_spec_l7Log_M ⟨[d], os⟩).bind fun v => some (conv_spec_l7Log_M v.1)
theorem out_spec_l7Log_M_enc (d : D RT den) (os : List (Ob RT den)) (y : Nat × (Sl Int) × Int × Nat × (Nat → S_impl_Entry)) (h : out_spec_l7Log_M d os = some y) : d = (enc_spec_l7Log_M y).1 ∧ os = (enc_spec_l7Log_M y).2 :=
  outM (conv := conv_spec_l7Log_M) (enc := enc_spec_l7Log_M) (fun raw => by kernel_rfl) h
theorem ev_spec_l7Log_M (fu : Nat) (b0_0 : (Sl Int)) (b0_1 : Int) : evFunM E false (pc_spec_l7Log_M fu) msk_spec_l7Log_M (lp_spec_l7Log_M fu) out_spec_l7Log_M 46 [(.ref 0 0)] [(.box true [(.rs b0_0.z .u8 b0_0.n b0_0.f), (.int .i64 b0_1)])] = F_spec_l7Log_M fu b0_0 b0_1 := by kernel_rfl
noncomputable def body_spec_l7Log_M : Code := Try.f46.body.getD .skip
noncomputable def lc_spec_l7Log_M_0 : Code := ((loops 0 body_spec_l7Log_M).getD 0 (0, .skip)).2
theorem round_spec_l7Log_M_0 (fu : Nat) (it : St RT den → Option (Nat × (Sl Int) × Int × Nat × (Nat → S_impl_Entry))) (k : Ex → St RT den → Option (Nat × (Sl Int) × Int × Nat × (Nat → S_impl_Entry))) c w : evCode E (pc_spec_l7Log_M fu) msk_spec_l7Log_M (lp_spec_l7Log_M fu) 0 lc_spec_l7Log_M_0 (back_spec_l7Log_M_0 c w) (after (msk_spec_l7Log_M 0) (msk_spec_l7Log_M 100000) 2 it k) = Bk_spec_l7Log_M_0 fu c k w (fun w => it (back_spec_l7Log_M_0 c w)) := by kernel_rfl
theorem lpok_spec_l7Log_M_0 (fu : Nat) : ∀ s k r, lp_spec_l7Log_M fu 0 s k = some r → ∃ fuel, iter (msk_spec_l7Log_M 0) (msk_spec_l7Log_M 100000) s.objs.length (evCode E (pc_spec_l7Log_M fu) msk_spec_l7Log_M (lp_spec_l7Log_M fu) 0 lc_spec_l7Log_M_0) fuel s k = some r :=
  handle_ok (ps := ps_spec_l7Log_M_0) (os := os_spec_l7Log_M_0) (conv := conv_spec_l7Log_M_0) (B := Bk_spec_l7Log_M_0 fu) (fu := fu) back_spec_l7Log_M_0 (fun raw => by kernel_rfl) 2 (fun c w => by kernel_rfl) (round_spec_l7Log_M_0 fu)
theorem lpok_spec_l7Log_M (fu : Nat) : LpOk E (pc_spec_l7Log_M fu) msk_spec_l7Log_M (lp_spec_l7Log_M fu) (loops 0 body_spec_l7Log_M) := loop_all 1 (by kernel_rfl) fun i hi => match i, hi with
  | 0, _ => by
    have h : (loops 0 body_spec_l7Log_M).getD 0 (0, .skip) = (0, lc_spec_l7Log_M_0) := by kernel_rfl
    rw [h]; exact lpok_spec_l7Log_M_0 fu
  | i + 1, hi => absurd hi (by omega)
def S_spec_l7Log_M (fu : Nat) (xs : List (D RT den)) (ins : List (Ob RT den)) : Option (OutX RT den) := match xs, ins with | [.ref 0 0], [.box true [.rs za1000_0 .u8 na1000_0 fa1000_0, .int .i64 a1001_0]] => some ⟨Nat × (Sl Int) × Int × Nat × (Nat → S_impl_Entry), F_spec_l7Log_M fu (⟨za1000_0, na1000_0, fa1000_0⟩ : (Sl Int)) a1001_0, enc_spec_l7Log_M⟩ | _, _ => none
theorem hpc_spec_l7Log_M (fu : Nat) : ∀ f xs o, pcf_spec_l7Log_M fu f xs = some o → ∀ y, o.x = some y → Good E Try.prog f xs (o.g y) := by
  intro f xs o h
  cases h
theorem hpx_spec_l7Log_M (fu : Nat) : ∀ f xs ins o, pcx_spec_l7Log_M fu f xs ins = some o → ∀ y, o.x = some y → GoodX E Try.prog f xs ins (o.g y).1 (o.g y).2 := by
  intro f xs ins o h
  unfold pcx_spec_l7Log_M at h
  split at h
  · exact good_spec_l1Chance_M fu xs ins o h
  · exact good_spec_l1Next_M fu xs ins o h
  · exact good_spec_l7Entry_M fu xs ins o h
  · exact good_spec_l1Pick_M fu xs ins o h
  · cases h
theorem goodv_spec_l7Log_M (fu : Nat) (b0_0 : (Sl Int)) (b0_1 : Int) (y : Nat × (Sl Int) × Int × Nat × (Nat → S_impl_Entry)) (hy : F_spec_l7Log_M fu b0_0 b0_1 = some y) : GoodX E Try.prog 46 [(.ref 0 0)] [(.box true [(.rs b0_0.z .u8 b0_0.n b0_0.f), (.int .i64 b0_1)])] (enc_spec_l7Log_M y).1 (enc_spec_l7Log_M y).2 :=
  funM_good (ke := false) E_ok (pc_good (pc := pc_spec_l7Log_M fu) (hpc_spec_l7Log_M fu) (hpx_spec_l7Log_M fu)) (fn := Try.f46) (c := body_spec_l7Log_M) (out := out_spec_l7Log_M) (y := y) (by kernel_rfl) (by kernel_rfl) (by kernel_rfl) (lpok_spec_l7Log_M fu) (by kernel_rfl) (Nat.le_of_ble_eq_true (by kernel_rfl)) (fun d os hd => out_spec_l7Log_M_enc d os _ hd) ((ev_spec_l7Log_M fu b0_0 b0_1).trans hy)
theorem good_spec_l7Log_M (fu : Nat) : ∀ xs ins o, S_spec_l7Log_M fu xs ins = some o → ∀ y, o.x = some y → GoodX E Try.prog 46 xs ins (o.g y).1 (o.g y).2 := by
  intro xs ins o h y hy
  unfold S_spec_l7Log_M at h
  split at h
  · rename_i za1000_0 na1000_0 fa1000_0 a1001_0
    cases h
    exact goodv_spec_l7Log_M fu (⟨za1000_0, na1000_0, fa1000_0⟩ : (Sl Int)) a1001_0 y hy
  · cases h

/-! spec.l5BentCmd -/
def F_spec_l5BentCmd_M (fu : Nat) (b0_0 : (Sl Int)) (b0_1 : Int) : Option (Int × Int × Int × Int × Int × Int × (Sl Int) × Int) :=
  ((F_spec_l5Cmd_M fu b0_0 b0_1).bind fun y581 => ((F_spec_l1Next_M fu 18 y581.2.2.2.2.2.2.1 y581.2.2.2.2.2.2.2).bind fun y582 => (bif (y582.1 == 0) then ((F_spec_l1Next_M fu 9 y582.2.1 y582.2.2).bind fun y583 =>
    ((F_spec_l1Pick_M fu (⟨(some false), 3, (fun i => [0, 10, (IntKind.wrap .i64 (1 + y583.1))].getD i (dflt .i64))⟩ : (Sl Int)) y583.2.1 y583.2.2).bind fun y584 => (some (y584.1,
    y581.2.1, y581.2.2.1, y581.2.2.2.1, y581.2.2.2.2.1, y581.2.2.2.2.2.1, y584.2.1, y584.2.2)))) else (bif (y582.1 == 1) then ((F_spec_l1Pick_M fu (⟨(some false), 4, (fun i =>
    [(-2), 1000000, 1000001, 3].getD i (dflt .i64))⟩ : (Sl Int)) y582.2.1 y582.2.2).bind fun y585 => (some (y581.1, y585.1, y581.2.2.1, y581.2.2.2.1, y581.2.2.2.2.1,
    y581.2.2.2.2.2.1, y585.2.1, y585.2.2))) else (bif (y582.1 == 2) then ((F_spec_l1Pick_M fu (⟨(some false), 3, (fun i => [0, 1000, 7].getD i (dflt .i64))⟩ : (Sl Int)) y582.2.1 y582.2.2).bind fun y586 =>
    (some (y581.1, y581.2.1, y586.1, y581.2.2.2.1, y581.2.2.2.2.1, y581.2.2.2.2.2.1, y586.2.1, y586.2.2))) else (bif (y582.1 == 3) then ((F_spec_l1Pick_M fu (⟨(some false), 3, (fun i =>
    [(-1), 4294967296, 7].getD i (dflt .i64))⟩ : (Sl Int)) y582.2.1 y582.2.2).bind fun y587 => (some (y581.1, y581.2.1, y581.2.2.1, y587.1, y581.2.2.2.2.1, y581.2.2.2.2.2.1,
    y587.2.1, y587.2.2))) else (bif (y582.1 == 4) then ((F_spec_l1Pick_M fu (⟨(some false), 4, (fun i => [(-1), 65536, 10, 0].getD i (dflt .i64))⟩ : (Sl Int)) y582.2.1 y582.2.2).bind fun y588 =>
    (some (y581.1, y581.2.1, y581.2.2.1, y581.2.2.2.1, y588.1, y581.2.2.2.2.2.1, y588.2.1, y588.2.2))) else (bif (y582.1 == 5) then ((F_spec_l1Pick_M fu (⟨(some false), 3, (fun i =>
    [1, 0, 17].getD i (dflt .i64))⟩ : (Sl Int)) y582.2.1 y582.2.2).bind fun y589 => (some (y581.1, y581.2.1, y581.2.2.1, y581.2.2.2.1, y581.2.2.2.2.1, y589.1, y589.2.1, y589.2.2))) else
    (some (y581.1, y581.2.1, y581.2.2.1, y581.2.2.2.1, y581.2.2.2.2.1, y581.2.2.2.2.2.1, y582.2.1, y582.2.2))))))))))
def pcf_spec_l5BentCmd_M (fu : Nat) (f : Nat) (xs : List (D RT den)) : Option (Out RT den) := none
def pcx_spec_l5BentCmd_M (fu : Nat) (f : Nat) (xs : List (D RT den)) (ins : List (Ob RT den)) : Option (OutX RT den) := match f with | 32 => S_spec_l1Next_M fu xs ins | 44 => S_spec_l1Pick_M fu xs ins | 48 => S_spec_l5Cmd_M fu xs ins | _ => none
def pc_spec_l5BentCmd_M (fu : Nat) : Pc RT den := ⟨pcf_spec_l5BentCmd_M fu, fun f => match f with | 32 => true | 44 => true | 48 => true | _ => false, fun f => match f with | 32 => true | 44 => true | 48 => true | _ => false, pcx_spec_l5BentCmd_M fu⟩
def msk_spec_l5BentCmd_M (b : Nat) : List Nat := []
def lp_spec_l5BentCmd_M (fu : Nat) : Lp RT den (Int × Int × Int × Int × Int × Int × (Sl Int) × Int) := fun b s k => none
def pso_spec_l5BentCmd_M : List (Pat RT) := [.agg [(.int .i64), (.int .i64), (.int .i64), (.int .i64), (.int .i64), (.int .i64)]]
def oso_spec_l5BentCmd_M : List (OP RT) := [.box true [(.rs .u8), (.int .i64)]]
def conv_spec_l5BentCmd_M (r : Raw den pso_spec_l5BentCmd_M oso_spec_l5BentCmd_M) : Int × Int × Int × Int × Int × Int × (Sl Int) × Int := (r.1.1.1, r.1.1.2.1, r.1.1.2.2.1, r.1.1.2.2.2.1, r.1.1.2.2.2.2.1, r.1.1.2.2.2.2.2.1, r.2.1.1, r.2.1.2.1)
def enc_spec_l5BentCmd_M (y : Int × Int × Int × Int × Int × Int × (Sl Int) × Int) : D RT den × List (Ob RT den) := ((.agg [(.int .i64 y.1), (.int .i64 y.2.1), (.int .i64 y.2.2.1), (.int .i64 y.2.2.2.1), (.int .i64 y.2.2.2.2.1), (.int .i64 y.2.2.2.2.2.1)]), [(.box true [(.rs y.2.2.2.2.2.2.1.z .u8 y.2.2.2.2.2.2.1.n y.2.2.2.2.2.2.1.f), (.int .i64 y.2.2.2.2.2.2.2)])])
def out_spec_l5BentCmd_M (d : D RT den) (os : List (Ob RT den)) : Option (Int × Int × Int × Int × Int × Int × (Sl Int) × Int) := (unSt pso_spec_l5BentCmd_M oso_spec_l5BentCmd_M ⟨[d], os⟩).bind fun v => some (conv_spec_l5BentCmd_M v.1)
theorem out_spec_l5BentCmd_M_enc (d : D RT den) (os : List (Ob RT den)) (y : Int × Int × Int × Int × Int × Int × (Sl Int) × Int) (h : out_spec_l5BentCmd_M d os = some y) : d = (enc_spec_l5BentCmd_M y).1 ∧ os = (enc_spec_l5BentCmd_M y).2 :=
  outM (conv := conv_spec_l5BentCmd_M) (enc := enc_spec_l5BentCmd_M) (fun raw => by kernel_rfl) h
theorem ev_spec_l5BentCmd_M (fu : Nat) (b0_0 : (Sl Int)) (b0_1 : Int) : evFunM E false (pc_spec_l5BentCmd_M fu) msk_spec_l5BentCmd_M (lp_spec_l5BentCmd_M fu) out_spec_l5BentCmd_M 47 [(.ref 0 0)] [(.box true [(.rs b0_0.z .u8 b0_0.n b0_0.f), (.int .i64 b0_1)])] = F_spec_l5BentCmd_M fu b0_0 b0_1 := by kernel_rfl
noncomputable def body_spec_l5BentCmd_M : Code := Try.f47.body.getD .skip
theorem lpok_spec_l5BentCmd_M (fu : Nat) : LpOk E (pc_spec_l5BentCmd_M fu) msk_spec_l5BentCmd_M (lp_spec_l5BentCmd_M fu) (loops 0 body_spec_l5BentCmd_M) := by
  have h : loops 0 body_spec_l5BentCmd_M = [] := by kernel_rfl
  rw [h]; intro p hp; cases hp
def S_spec_l5BentCmd_M (fu : Nat) (xs : List (D RT den)) (ins : List (Ob RT den)) : Option (OutX RT den) := match xs, ins with | [.ref 0 0], [.box true [.rs za1000_0 .u8 na1000_0 fa1000_0, .int .i64 a1001_0]] => some ⟨Int × Int × Int × Int × Int × Int × (Sl Int) × Int, F_spec_l5BentCmd_M fu (⟨za1000_0, na1000_0, fa1000_0⟩ : (Sl Int)) a1001_0, enc_spec_l5BentCmd_M⟩ | _, _ => none
theorem hpc_spec_l5BentCmd_M (fu : Nat) : ∀ f xs o, pcf_spec_l5BentCmd_M fu f xs = some o → ∀ y, o.x = some y → Good E Try.prog f xs (o.g y) := by
  intro f xs o h
  cases h
theorem hpx_spec_l5BentCmd_M (fu : Nat) : ∀ f xs ins o, pcx_spec_l5BentCmd_M fu f xs ins = some o → ∀ y, o.x = some y → GoodX E Try.prog f xs ins (o.g y).1 (o.g y).2 := by
  intro f xs ins o h
  unfold pcx_spec_l5BentCmd_M at h
  split at h
  · exact good_spec_l1Next_M fu xs ins o h
  · exact good_spec_l1Pick_M fu xs ins o h
  · exact good_spec_l5Cmd_M fu xs ins o h
  · cases h
theorem goodv_spec_l5BentCmd_M (fu : Nat) (b0_0 : (Sl Int)) (b0_1 : Int) (y : Int × Int × Int × Int × Int × Int × (Sl Int) × Int) (hy : F_spec_l5BentCmd_M fu b0_0 b0_1 = some y) : GoodX E Try.prog 47 [(.ref 0 0)] [(.box true [(.rs b0_0.z .u8 b0_0.n b0_0.f), (.int .i64 b0_1)])] (enc_spec_l5BentCmd_M y).1 (enc_spec_l5BentCmd_M y).2 :=
  funM_good (ke := false) E_ok (pc_good (pc := pc_spec_l5BentCmd_M fu) (hpc_spec_l5BentCmd_M fu) (hpx_spec_l5BentCmd_M fu)) (fn := Try.f47) (c := body_spec_l5BentCmd_M) (out := out_spec_l5BentCmd_M) (y := y) (by kernel_rfl) (by kernel_rfl) (by kernel_rfl) (lpok_spec_l5BentCmd_M fu) (by kernel_rfl) (Nat.le_of_ble_eq_true (by kernel_rfl)) (fun d os hd => out_spec_l5BentCmd_M_enc d os _ hd) ((ev_spec_l5BentCmd_M fu b0_0 b0_1).trans hy)
theorem good_spec_l5BentCmd_M (fu : Nat) : ∀ xs ins o, S_spec_l5BentCmd_M fu xs ins = some o → ∀ y, o.x = some y → GoodX E Try.prog 47 xs ins (o.g y).1 (o.g y).2 := by
  intro xs ins o h y hy
  unfold S_spec_l5BentCmd_M at h
  split at h
  · rename_i za1000_0 na1000_0 fa1000_0 a1001_0
    cases h
    exact goodv_spec_l5BentCmd_M fu (⟨za1000_0, na1000_0, fa1000_0⟩ : (Sl Int)) a1001_0 y hy
  · cases h

/-! spec.l7Bent -/
def F_spec_l7Bent_M (fu : Nat) (b0_0 : (Sl Int)) (b0_1 : Int) : Option (Nat × (Sl Int) × Int × Nat × (Nat → S_impl_Entry)) :=
  ((F_spec_l7Log_M fu b0_0 b0_1).bind fun y568 => (bif (((y568.1 : Nat) : Int) == 0) then (some (y568.1, y568.2.1, y568.2.2.1, y568.1, y568.2.2.2.2)) else ((F_spec_l1Next_M fu ((y568.1 : Nat) : Int) y568.2.1 y568.2.2.1).bind fun y569 =>
    ((F_spec_l1Next_M fu 16 y569.2.1 y569.2.2).bind fun y570 => (bif (y570.1 == 0) then ((F_spec_l1Pick_M fu (⟨(some false), 4, (fun i => [0, 1, 100000, 100001].getD i (dflt .i64))⟩ : (Sl Int)) y570.2.1 y570.2.2).bind fun y571 =>
    ((bif (decide (0 ≤ y569.1) && decide ((Int.toNat y569.1) < y568.1)) then some () else none : Option Unit).bind fun _ => (some (y568.1, y571.2.1, y571.2.2, y568.1,
    (upd_impl_Entry_0_1 y568.2.2.2.2 (Int.toNat y569.1) y571.1))))) else (bif (y570.1 == 1) then ((F_spec_l5BentCmd_M fu y570.2.1 y570.2.2).bind fun y590 => ((bif (decide (0 ≤ y569.1) &&
    decide ((Int.toNat y569.1) < y568.1)) then some () else none : Option Unit).bind fun _ => (some (y568.1, y590.2.2.2.2.2.2.1, y590.2.2.2.2.2.2.2, y568.1, (upd_impl_Entry_3_6 y568.2.2.2.2 (Int.toNat y569.1) y590.1 y590.2.1 y590.2.2.1 y590.2.2.2.1 y590.2.2.2.2.1 y590.2.2.2.2.2.1))))) else
    (bif (y570.1 == 2) then ((F_spec_l1Pick_M fu (⟨(some false), 3, (fun i => [0, 1, 1000].getD i (dflt .i64))⟩ : (Sl Int)) y570.2.1 y570.2.2).bind fun y591 => ((bif (decide (0 ≤ y569.1) &&
    decide ((Int.toNat y569.1) < y568.1)) then some () else none : Option Unit).bind fun _ => (some (y568.1, y591.2.1, y591.2.2, y568.1, (upd_impl_Entry_1_1 y568.2.2.2.2 (Int.toNat y569.1) y591.1))))) else
    (bif (y570.1 == 3) then (some (41, y570.2.1, y570.2.2, 41, (fun _ => (⟨0, 0, 0, (⟨0, 0, 0, 0, 0, 0⟩ : S_impl_Cmd)⟩ : S_impl_Entry)))) else (some (y568.1, y570.2.1, y570.2.2,
    y568.1, y568.2.2.2.2))))))))))
def pcf_spec_l7Bent_M (fu : Nat) (f : Nat) (xs : List (D RT den)) : Option (Out RT den) := none
def pcx_spec_l7Bent_M (fu : Nat) (f : Nat) (xs : List (D RT den)) (ins : List (Ob RT den)) : Option (OutX RT den) := match f with | 32 => S_spec_l1Next_M fu xs ins | 44 => S_spec_l1Pick_M fu xs ins | 46 => S_spec_l7Log_M fu xs ins | 47 => S_spec_l5BentCmd_M fu xs ins | _ => none
def pc_spec_l7Bent_M (fu : Nat) : Pc RT den := ⟨pcf_spec_l7Bent_M fu, fun f => match f with | 32 => true | 44 => true | 46 => true | 47 => true | _ => false, fun f => match f with | 32 => true | 44 => true | 46 => true | 47 => true | _ => false, pcx_spec_l7Bent_M fu⟩
def msk_spec_l7Bent_M (b : Nat) : List Nat := []
def lp_spec_l7Bent_M (fu : Nat) : Lp RT den (Nat × (Sl Int) × Int × Nat × (Nat → S_impl_Entry)) := fun b s k => none
def pso_spec_l7Bent_M : List (Pat RT) := [.flat (.os 1)]
def oso_spec_l7Bent_M : List (OP RT) := [.box true [(.rs .u8), (.int .i64)], .row false .impl_Entry]
def conv_spec_l7Bent_M (r : Raw den pso_spec_l7Bent_M oso_spec_l7Bent_M) : Nat × (Sl Int) × Int × Nat × (Nat → S_impl_Entry) := (r.1.1, r.2.1.1, r.2.1.2.1, r.2.2.1.1, r.2.2.1.2)
def enc_spec_l7Bent_M (y : Nat × (Sl Int) × Int × Nat × (Nat → S_impl_Entry)) : D RT den × List (Ob RT den) := ((.os 1 y.1), [(.box true [(.rs y.2.1.z .u8 y.2.1.n y.2.1.f), (.int .i64 y.2.2.1)]), (.row false .impl_Entry y.2.2.2.1 y.2.2.2.2)])
def out_spec_l7Bent_M (d : D RT den) (os : List (Ob RT den)) : Option (Nat × (Sl Int) × Int × Nat × (Nat → S_impl_Entry)) := (unSt pso_spec_l7Bent_M oso_spec_l7Bent_M ⟨[d], os⟩).bind fun v => some (conv_spec_l7Bent_M v.1)
theorem out_spec_l7Bent_M_enc (d : D RT den) (os : List (Ob RT den)) (y : Nat × (Sl Int) × Int × Nat × (Nat → S_impl_Entry)) (h : out_spec_l7Bent_M d os = some y) : d = (enc_spec_l7Bent_M y).1 ∧ os = (enc_spec_l7Bent_M y).2 :=
  outM (conv := conv_spec_l7Bent_M) (enc := enc_spec_l7Bent_M) (fun raw => by kernel_rfl) h
theorem ev_spec_l7Bent_M (fu : Nat) (b0_0 : (Sl Int)) (b0_1 : Int) : evFunM E false (pc_spec_l7Bent_M fu) msk_spec_l7Bent_M (lp_spec_l7Bent_M fu) out_spec_l7Bent_M 28 [(.ref 0 0)] [(.box true [(.rs b0_0.z .u8 b0_0.n b0_0.f), (.int .i64 b0_1)])] = F_spec_l7Bent_M fu b0_0 b0_1 := by kernel_rfl
noncomputable def body_spec_l7Bent_M : Code := Try.f28.body.getD .skip
theorem lpok_spec_l7Bent_M (fu : Nat) : LpOk E (pc_spec_l7Bent_M fu) msk_spec_l7Bent_M (lp_spec_l7Bent_M fu) (loops 0 body_spec_l7Bent_M) := by
  have h : loops 0 body_spec_l7Bent_M = [] := by kernel_rfl
  rw [h]; intro p hp; cases hp
def S_spec_l7Bent_M (fu : Nat) (xs : List (D RT den)) (ins : List (Ob RT den)) : Option (OutX RT den) := match xs, ins with | [.ref 0 0], [.box true [.rs za1000_0 .u8 na1000_0 fa1000_0, .int .i64 a1001_0]] => some ⟨Nat × (Sl Int) × Int × Nat × (Nat → S_impl_Entry), F_spec_l7Bent_M fu (⟨za1000_0, na1000_0, fa1000_0⟩ : (Sl Int)) a1001_0, enc_spec_l7Bent_M⟩ | _, _ => none
theorem hpc_spec_l7Bent_M (fu : Nat) : ∀ f xs o, pcf_spec_l7Bent_M fu f xs = some o → ∀ y, o.x = some y → Good E Try.prog f xs (o.g y) := by
  intro f xs o h
  cases h
theorem hpx_spec_l7Bent_M (fu : Nat) : ∀ f xs ins o, pcx_spec_l7Bent_M fu f xs ins = some o → ∀ y, o.x = some y → GoodX E Try.prog f xs ins (o.g y).1 (o.g y).2 := by
  intro f xs ins o h
  unfold pcx_spec_l7Bent_M at h
  split at h
  · exact good_spec_l1Next_M fu xs ins o h
  · exact good_spec_l1Pick_M fu xs ins o h
  · exact good_spec_l7Log_M fu xs ins o h
  · exact good_spec_l5BentCmd_M fu xs ins o h
  · cases h
theorem goodv_spec_l7Bent_M (fu : Nat) (b0_0 : (Sl Int)) (b0_1 : Int) (y : Nat × (Sl Int) × Int × Nat × (Nat → S_impl_Entry)) (hy : F_spec_l7Bent_M fu b0_0 b0_1 = some y) : GoodX E Try.prog 28 [(.ref 0 0)] [(.box true [(.rs b0_0.z .u8 b0_0.n b0_0.f), (.int .i64 b0_1)])] (enc_spec_l7Bent_M y).1 (enc_spec_l7Bent_M y).2 :=
  funM_good (ke := false) E_ok (pc_good (pc := pc_spec_l7Bent_M fu) (hpc_spec_l7Bent_M fu) (hpx_spec_l7Bent_M fu)) (fn := Try.f28) (c := body_spec_l7Bent_M) (out := out_spec_l7Bent_M) (y := y) (by kernel_rfl) (by kernel_rfl) (by kernel_rfl) (lpok_spec_l7Bent_M fu) (by kernel_rfl) (Nat.le_of_ble_eq_true (by kernel_rfl)) (fun d os hd => out_spec_l7Bent_M_enc d os _ hd) ((ev_spec_l7Bent_M fu b0_0 b0_1).trans hy)
theorem good_spec_l7Bent_M (fu : Nat) : ∀ xs ins o, S_spec_l7Bent_M fu xs ins = some o → ∀ y, o.x = some y → GoodX E Try.prog 28 xs ins (o.g y).1 (o.g y).2 := by
  intro xs ins o h y hy
  unfold S_spec_l7Bent_M at h
  split at h
  · rename_i za1000_0 na1000_0 fa1000_0 a1001_0
    cases h
    exact goodv_spec_l7Bent_M fu (⟨za1000_0, na1000_0, fa1000_0⟩ : (Sl Int)) a1001_0 y hy
  · cases h

/-! spec.l7At -/
def F_spec_l7At_M (fu : Nat) (log_1_0 : Nat) (b0_1 : (Sl Int)) (b0_2 : Int) (rn1 : Nat) (rf1 : (Nat → S_impl_Entry)) : Option (Int × Int × (Sl Int) × Int × Nat × (Nat → S_impl_Entry)) :=
  (bif (decide (((log_1_0 : Nat) : Int) > 0)) then ((F_spec_l1Chance_M fu 4 b0_1 b0_2).bind fun y598 => (bif (!y598.1) then ((F_spec_l1Next_M fu ((log_1_0 : Nat) : Int) y598.2.1 y598.2.2).bind fun y599 =>
    ((bif (decide (0 ≤ y599.1) && decide ((Int.toNat y599.1) < log_1_0)) then some () else none : Option Unit).bind fun _ => (some ((IntKind.wrap .i64 (y599.1 + 1)), (rf1 (Int.toNat y599.1)).Term,
    y599.2.1, y599.2.2, rn1, rf1)))) else ((F_spec_l1Pick_M fu (⟨(some false), 5, (fun i => [0, 0, 1, 41, (-1)].getD i (dflt .i64))⟩ : (Sl Int)) y598.2.1 y598.2.2).bind fun y600 =>
    ((F_spec_l1Pick_M fu (⟨(some false), 4, (fun i => [0, 0, 1, 5].getD i (dflt .i64))⟩ : (Sl Int)) y600.2.1 y600.2.2).bind fun y601 => (some (y600.1, y601.1, y601.2.1, y601.2.2,
    rn1, rf1)))))) else ((F_spec_l1Pick_M fu (⟨(some false), 5, (fun i => [0, 0, 1, 41, (-1)].getD i (dflt .i64))⟩ : (Sl Int)) b0_1 b0_2).bind fun y602 => ((F_spec_l1Pick_M fu (⟨(some false),
    4, (fun i => [0, 0, 1, 5].getD i (dflt .i64))⟩ : (Sl Int)) y602.2.1 y602.2.2).bind fun y603 => (some (y602.1, y603.1, y603.2.1, y603.2.2, rn1, rf1)))))
def pcf_spec_l7At_M (fu : Nat) (f : Nat) (xs : List (D RT den)) : Option (Out RT den) := none
def pcx_spec_l7At_M (fu : Nat) (f : Nat) (xs : List (D RT den)) (ins : List (Ob RT den)) : Option (OutX RT den) := match f with | 22 => S_spec_l1Chance_M fu xs ins | 32 => S_spec_l1Next_M fu xs ins | 44 => S_spec_l1Pick_M fu xs ins | _ => none
def pc_spec_l7At_M (fu : Nat) : Pc RT den := ⟨pcf_spec_l7At_M fu, fun f => match f with | 22 => true | 32 => true | 44 => true | _ => false, fun f => match f with | 22 => true | 32 => true | 44 => true | _ => false, pcx_spec_l7At_M fu⟩
def msk_spec_l7At_M (b : Nat) : List Nat := []
def lp_spec_l7At_M (fu : Nat) : Lp RT den (Int × Int × (Sl Int) × Int × Nat × (Nat → S_impl_Entry)) := fun b s k => none
def pso_spec_l7At_M : List (Pat RT) := [.tup [.flat (.int .i64), .flat (.int .i64)]]
def oso_spec_l7At_M : List (OP RT) := [.box true [(.rs .u8), (.int .i64)], .row true .impl_Entry]
def conv_spec_l7At_M (r : Raw den pso_spec_l7At_M oso_spec_l7At_M) : Int × Int × (Sl Int) × Int × Nat × (Nat → S_impl_Entry) := (r.1.1.1, r.1.1.2.1, r.2.1.1, r.2.1.2.1, r.2.2.1.1, r.2.2.1.2)
def enc_spec_l7At_M (y : Int × Int × (Sl Int) × Int × Nat × (Nat → S_impl_Entry)) : D RT den × List (Ob RT den) := ((.tup [(.int .i64 y.1), (.int .i64 y.2.1)]), [(.box true [(.rs y.2.2.1.z .u8 y.2.2.1.n y.2.2.1.f), (.int .i64 y.2.2.2.1)]), (.row true .impl_Entry y.2.2.2.2.1 y.2.2.2.2.2)])
def out_spec_l7At_M (d : D RT den) (os : List (Ob RT den)) : Option (Int × Int × (Sl Int) × Int × Nat × (Nat → S_impl_Entry)) := (unSt pso_spec_l7At_M oso_spec_l7At_M ⟨[d], os⟩).bind fun v => some (conv_spec_l7At_M v.1)
theorem out_spec_l7At_M_enc (d : D RT den) (os : List (Ob RT den)) (y : Int × Int × (Sl Int) × Int × Nat × (Nat → S_impl_Entry)) (h : out_spec_l7At_M d os = some y) : d = (enc_spec_l7At_M y).1 ∧ os = (enc_spec_l7At_M y).2 :=
  outM (conv := conv_spec_l7At_M) (enc := enc_spec_l7At_M) (fun raw => by kernel_rfl) h
theorem ev_spec_l7At_M (fu : Nat) (log_1_0 : Nat) (b0_1 : (Sl Int)) (b0_2 : Int) (rn1 : Nat) (rf1 : (Nat → S_impl_Entry)) : evFunM E false (pc_spec_l7At_M fu) msk_spec_l7At_M (lp_spec_l7At_M fu) out_spec_l7At_M 29 [(.ref 0 0), (.os 1 log_1_0)] [(.box true [(.rs b0_1.z .u8 b0_1.n b0_1.f), (.int .i64 b0_2)]), (.row true .impl_Entry rn1 rf1)] = F_spec_l7At_M fu log_1_0 b0_1 b0_2 rn1 rf1 := by kernel_rfl
noncomputable def body_spec_l7At_M : Code := Try.f29.body.getD .skip
theorem lpok_spec_l7At_M (fu : Nat) : LpOk E (pc_spec_l7At_M fu) msk_spec_l7At_M (lp_spec_l7At_M fu) (loops 0 body_spec_l7At_M) := by
  have h : loops 0 body_spec_l7At_M = [] := by kernel_rfl
  rw [h]; intro p hp; cases hp
def S_spec_l7At_M (fu : Nat) (xs : List (D RT den)) (ins : List (Ob RT den)) : Option (OutX RT den) := match xs, ins with | [.ref 0 0, .os 1 a1_0], [.box true [.rs za1000_0 .u8 na1000_0 fa1000_0, .int .i64 a1001_0], .row true .impl_Entry rn1 rf1] => some ⟨Int × Int × (Sl Int) × Int × Nat × (Nat → S_impl_Entry), F_spec_l7At_M fu a1_0 (⟨za1000_0, na1000_0, fa1000_0⟩ : (Sl Int)) a1001_0 rn1 rf1, enc_spec_l7At_M⟩ | _, _ => none
theorem hpc_spec_l7At_M (fu : Nat) : ∀ f xs o, pcf_spec_l7At_M fu f xs = some o → ∀ y, o.x = some y → Good E Try.prog f xs (o.g y) := by
  intro f xs o h
  cases h
theorem hpx_spec_l7At_M (fu : Nat) : ∀ f xs ins o, pcx_spec_l7At_M fu f xs ins = some o → ∀ y, o.x = some y → GoodX E Try.prog f xs ins (o.g y).1 (o.g y).2 := by
  intro f xs ins o h
  unfold pcx_spec_l7At_M at h
  split at h
  · exact good_spec_l1Chance_M fu xs ins o h
  · exact good_spec_l1Next_M fu xs ins o h
  · exact good_spec_l1Pick_M fu xs ins o h
  · cases h
theorem goodv_spec_l7At_M (fu : Nat) (log_1_0 : Nat) (b0_1 : (Sl Int)) (b0_2 : Int) (rn1 : Nat) (rf1 : (Nat → S_impl_Entry)) (y : Int × Int × (Sl Int) × Int × Nat × (Nat → S_impl_Entry)) (hy : F_spec_l7At_M fu log_1_0 b0_1 b0_2 rn1 rf1 = some y) : GoodX E Try.prog 29 [(.ref 0 0), (.os 1 log_1_0)] [(.box true [(.rs b0_1.z .u8 b0_1.n b0_1.f), (.int .i64 b0_2)]), (.row true .impl_Entry rn1 rf1)] (enc_spec_l7At_M y).1 (enc_spec_l7At_M y).2 :=
  funM_good (ke := false) E_ok (pc_good (pc := pc_spec_l7At_M fu) (hpc_spec_l7At_M fu) (hpx_spec_l7At_M fu)) (fn := Try.f29) (c := body_spec_l7At_M) (out := out_spec_l7At_M) (y := y) (by kernel_rfl) (by kernel_rfl) (by kernel_rfl) (lpok_spec_l7At_M fu) (by kernel_rfl) (Nat.le_of_ble_eq_true (by kernel_rfl)) (fun d os hd => out_spec_l7At_M_enc d os _ hd) ((ev_spec_l7At_M fu log_1_0 b0_1 b0_2 rn1 rf1).trans hy)
theorem good_spec_l7At_M (fu : Nat) : ∀ xs ins o, S_spec_l7At_M fu xs ins = some o → ∀ y, o.x = some y → GoodX E Try.prog 29 xs ins (o.g y).1 (o.g y).2 := by
  intro xs ins o h y hy
  unfold S_spec_l7At_M at h
  split at h
  · rename_i a1_0 za1000_0 na1000_0 fa1000_0 a1001_0 rn1 rf1
    cases h
    exact goodv_spec_l7At_M fu a1_0 (⟨za1000_0, na1000_0, fa1000_0⟩ : (Sl Int)) a1001_0 rn1 rf1 y hy
  · cases h

/-! spec.DrawTakeEntries -/
def F_spec_DrawTakeEntries (fu : Nat) (code_0 : (Sl Int)) : Option ((Sl S_impl_Entry) × Int × Int × (Sl S_impl_Entry)) :=
  ((F_spec_l1Source_M fu code_0).bind fun y612 => ((F_spec_l7Bent_M fu y612.1 y612.2).bind fun y613 => ((F_spec_l7At_M fu y613.1 y613.2.1 y613.2.2.1 y613.2.2.2.1 y613.2.2.2.2).bind fun y614 =>
    ((F_spec_l7Bent_M fu y614.2.2.1 y614.2.2.2.1).bind fun y615 => ((F_spec_l1Chance_M fu 2 y615.2.1 y615.2.2.1).bind fun y616 => (bif y616.1 then ((F_spec_l1In fu y614.1 0 ((y613.1 : Nat) : Int)).bind fun y617 =>
    (bif y617 then ((bif (decide (0 ≤ y614.1) && (decide (y614.1 ≤ ((y613.1 : Nat) : Int)) && decide (y613.1 ≤ y613.1))) then some () else none : Option Unit).bind fun _ =>
    ((F_spec_l7Copy_H fu (⟨none, (y613.1 - (Int.toNat y614.1)), (fun i => y614.2.2.2.2.2 ((Int.toNat y614.1) + i))⟩ : (Sl S_impl_Entry))).bind fun y618 => (bif (decide (((y618.n : Nat) : Int) > 0)) then
    ((F_spec_l1Next_M fu ((y618.n : Nat) : Int) y616.2.1 y616.2.2).bind fun y619 => ((bif (decide (0 ≤ (IntKind.wrap .i64 (y619.1 + 1))) && decide ((Int.toNat (IntKind.wrap .i64 (y619.1 + 1))) ≤ y618.n)) then
    some () else none : Option Unit).bind fun _ => ((F_spec_l1Chance_M fu 2 y619.2.1 y619.2.2).bind fun y620 => (bif y620.1 then ((bif (decide (0 ≤ (IntKind.wrap .i64 ((((Int.toNat (IntKind.wrap .i64 (y619.1 + 1))) : Nat) : Int) - 1))) &&
    decide ((Int.toNat (IntKind.wrap .i64 ((((Int.toNat (IntKind.wrap .i64 (y619.1 + 1))) : Nat) : Int) - 1))) < (Int.toNat (IntKind.wrap .i64 (y619.1 + 1))))) then some () else
    none : Option Unit).bind fun _ => ((F_spec_l7Entry_M fu (IntKind.wrap .i64 ((y618.f (Int.toNat (IntKind.wrap .i64 ((((Int.toNat (IntKind.wrap .i64 (y619.1 + 1))) : Nat) : Int) - 1)))).Term + 1)) y620.2.1 y620.2.2).bind fun y621 =>
    ((bif (decide (0 ≤ (IntKind.wrap .i64 ((((Int.toNat (IntKind.wrap .i64 (y619.1 + 1))) : Nat) : Int) - 1))) && decide ((Int.toNat (IntKind.wrap .i64 ((((Int.toNat (IntKind.wrap .i64 (y619.1 + 1))) : Nat) : Int) - 1))) < (Int.toNat (IntKind.wrap .i64 (y619.1 + 1))))) then
    some () else none : Option Unit).bind fun _ => (some ((⟨none, y613.1, y614.2.2.2.2.2⟩ : (Sl S_impl_Entry)), y614.1, y614.2.1, (⟨none, (Int.toNat (IntKind.wrap .i64 (y619.1 + 1))),
    (fun j => if j = (Int.toNat (IntKind.wrap .i64 ((((Int.toNat (IntKind.wrap .i64 (y619.1 + 1))) : Nat) : Int) - 1))) then (⟨y621.1, y621.2.1, y621.2.2.1, (⟨y621.2.2.2.1,
    y621.2.2.2.2.1, y621.2.2.2.2.2.1, y621.2.2.2.2.2.2.1, y621.2.2.2.2.2.2.2.1, y621.2.2.2.2.2.2.2.2.1⟩ : S_impl_Cmd)⟩ : S_impl_Entry) else y618.f j)⟩ : (Sl S_impl_Entry))))))) else
    (some ((⟨none, y613.1, y614.2.2.2.2.2⟩ : (Sl S_impl_Entry)), y614.1, y614.2.1, (⟨none, (Int.toNat (IntKind.wrap .i64 (y619.1 + 1))), y618.f⟩ : (Sl S_impl_Entry)))))))) else
    (some ((⟨none, y613.1, y614.2.2.2.2.2⟩ : (Sl S_impl_Entry)), y614.1, y614.2.1, (⟨none, y618.n, y618.f⟩ : (Sl S_impl_Entry))))))) else (some ((⟨none, y613.1, y614.2.2.2.2.2⟩ : (Sl S_impl_Entry)),
    y614.1, y614.2.1, (⟨none, y615.1, y615.2.2.2.2⟩ : (Sl S_impl_Entry)))))) else (some ((⟨none, y613.1, y614.2.2.2.2.2⟩ : (Sl S_impl_Entry)), y614.1, y614.2.1, (⟨none, y615.1,
    y615.2.2.2.2⟩ : (Sl S_impl_Entry))))))))))
def pcf_spec_DrawTakeEntries (fu : Nat) (f : Nat) (xs : List (D RT den)) : Option (Out RT den) := match f with | 30 => S_spec_l1In fu xs | _ => none
def pcx_spec_DrawTakeEntries (fu : Nat) (f : Nat) (xs : List (D RT den)) (ins : List (Ob RT den)) : Option (OutX RT den) := match f with | 20 => S_spec_l1Source_M fu xs ins | 22 => S_spec_l1Chance_M fu xs ins | 28 => S_spec_l7Bent_M fu xs ins | 29 => S_spec_l7At_M fu xs ins | 31 => S_spec_l7Copy_H fu xs ins | 32 => S_spec_l1Next_M fu xs ins | 33 => S_spec_l7Entry_M fu xs ins | _ => none
def pc_spec_DrawTakeEntries (fu : Nat) : Pc RT den := ⟨pcf_spec_DrawTakeEntries fu, fun f => match f with | 20 => true | 22 => true | 28 => true | 29 => true | 31 => true | 32 => true | 33 => true | _ => false, fun f => match f with | 20 => true | 22 => true | 28 => true | 29 => true | 32 => true | 33 => true | _ => false, pcx_spec_DrawTakeEntries fu⟩
def msk_spec_DrawTakeEntries (b : Nat) : List Nat := match b with | 500006 => [1] | _ => []
def lp_spec_DrawTakeEntries (fu : Nat) : Lp RT den ((Sl S_impl_Entry) × Int × Int × (Sl S_impl_Entry)) := fun b s k => none
theorem ev_spec_DrawTakeEntries (fu : Nat) (code_0 : (Sl Int)) : evFun E (pc_spec_DrawTakeEntries fu) msk_spec_DrawTakeEntries (lp_spec_DrawTakeEntries fu) out_sl_impl_Entry_i64_i64_sl_impl_Entry 11 [(.rs code_0.z .u8 code_0.n code_0.f)] = F_spec_DrawTakeEntries fu code_0 := by kernel_rfl
noncomputable def body_spec_DrawTakeEntries : Code := Try.f11.body.getD .skip
theorem lpok_spec_DrawTakeEntries (fu : Nat) : LpOk E (pc_spec_DrawTakeEntries fu) msk_spec_DrawTakeEntries (lp_spec_DrawTakeEntries fu) (loops 0 body_spec_DrawTakeEntries) := by
  have h : loops 0 body_spec_DrawTakeEntries = [] := by kernel_rfl
  rw [h]; intro p hp; cases hp
def S_spec_DrawTakeEntries (fu : Nat) (xs : List (D RT den)) : Option (Out RT den) := match xs with | [.rs za0_0 .u8 na0_0 fa0_0] => some ⟨(Sl S_impl_Entry) × Int × Int × (Sl S_impl_Entry), F_spec_DrawTakeEntries fu (⟨za0_0, na0_0, fa0_0⟩ : (Sl Int)), enc_sl_impl_Entry_i64_i64_sl_impl_Entry, fun _ => true⟩ | _ => none
theorem hpc_spec_DrawTakeEntries (fu : Nat) : ∀ f xs o, pcf_spec_DrawTakeEntries fu f xs = some o → ∀ y, o.x = some y → Good E Try.prog f xs (o.g y) := by
  intro f xs o h
  unfold pcf_spec_DrawTakeEntries at h
  split at h
  · exact good_spec_l1In fu xs o h
  · cases h
theorem hpx_spec_DrawTakeEntries (fu : Nat) : ∀ f xs ins o, pcx_spec_DrawTakeEntries fu f xs ins = some o → ∀ y, o.x = some y → GoodX E Try.prog f xs ins (o.g y).1 (o.g y).2 := by
  intro f xs ins o h
  unfold pcx_spec_DrawTakeEntries at h
  split at h
  · exact good_spec_l1Source_M fu xs ins o h
  · exact good_spec_l1Chance_M fu xs ins o h
  · exact good_spec_l7Bent_M fu xs ins o h
  · exact good_spec_l7At_M fu xs ins o h
  · exact good_spec_l7Copy_H fu xs ins o h
  · exact good_spec_l1Next_M fu xs ins o h
  · exact good_spec_l7Entry_M fu xs ins o h
  · cases h
theorem goodv_spec_DrawTakeEntries (fu : Nat) (code_0 : (Sl Int)) (y : (Sl S_impl_Entry) × Int × Int × (Sl S_impl_Entry)) (hy : F_spec_DrawTakeEntries fu code_0 = some y) : Good E Try.prog 11 [(.rs code_0.z .u8 code_0.n code_0.f)] (enc_sl_impl_Entry_i64_i64_sl_impl_Entry y) :=
  fun_good E_ok (pc_good (pc := pc_spec_DrawTakeEntries fu) (hpc_spec_DrawTakeEntries fu) (hpx_spec_DrawTakeEntries fu)) (fn := Try.f11) (c := body_spec_DrawTakeEntries) (out := out_sl_impl_Entry_i64_i64_sl_impl_Entry) (y := y) (by kernel_rfl) (by kernel_rfl) (by kernel_rfl) (lpok_spec_DrawTakeEntries fu) (fun d hd => out_sl_impl_Entry_i64_i64_sl_impl_Entry_enc d _ hd) ((ev_spec_DrawTakeEntries fu code_0).trans hy)
theorem good_spec_DrawTakeEntries (fu : Nat) : ∀ xs o, S_spec_DrawTakeEntries fu xs = some o → ∀ y, o.x = some y → Good E Try.prog 11 xs (o.g y) := by
  intro xs o h y hy
  unfold S_spec_DrawTakeEntries at h
  split at h
  · rename_i za0_0 na0_0 fa0_0
    cases h
    exact goodv_spec_DrawTakeEntries fu (⟨za0_0, na0_0, fa0_0⟩ : (Sl Int)) y hy
  · cases h

/-! impl.CommonOf -/
def F_impl_CommonOf_B0 {ρ : Type} (fu : Nat) (a0_0 : (Sl S_impl_Entry)) (b1_1 : (Sl S_impl_Entry)) (k0 : Int → Option ρ) (n5_2 : Int) (go : Int → Option ρ) : Option ρ :=
  (((bif (decide (n5_2 < (minInt ((a0_0.n : Nat) : Int) ((b1_1.n : Nat) : Int)))) then ((bif (decide (0 ≤ n5_2) && decide ((Int.toNat n5_2) < a0_0.n)) then some () else none : Option Unit).bind fun _ =>
    ((bif (decide (0 ≤ n5_2) && decide ((Int.toNat n5_2) < b1_1.n)) then some () else none : Option Unit).bind fun _ => (some (((a0_0.f (Int.toNat n5_2)).Term == (b1_1.f (Int.toNat n5_2)).Term) &&
    (((a0_0.f (Int.toNat n5_2)).Client == (b1_1.f (Int.toNat n5_2)).Client) && (((a0_0.f (Int.toNat n5_2)).Seq == (b1_1.f (Int.toNat n5_2)).Seq) && (((a0_0.f (Int.toNat n5_2)).Cmd.Kind == (b1_1.f (Int.toNat n5_2)).Cmd.Kind) &&
    (((a0_0.f (Int.toNat n5_2)).Cmd.Expect == (b1_1.f (Int.toNat n5_2)).Cmd.Expect) && (((a0_0.f (Int.toNat n5_2)).Cmd.Name == (b1_1.f (Int.toNat n5_2)).Cmd.Name) && (((a0_0.f (Int.toNat n5_2)).Cmd.Addr == (b1_1.f (Int.toNat n5_2)).Cmd.Addr) &&
    (((a0_0.f (Int.toNat n5_2)).Cmd.Number == (b1_1.f (Int.toNat n5_2)).Cmd.Number) && (((a0_0.f (Int.toNat n5_2)).Cmd.Proto == (b1_1.f (Int.toNat n5_2)).Cmd.Proto) &&
    true)))))))))))) else (some false)) : Option Bool).bind fun m622 => (bif m622 then (go (IntKind.wrap .i64 (n5_2 + 1))) else (k0 n5_2)))
def F_impl_CommonOf (fu : Nat) (a_0 : (Sl S_impl_Entry)) (b_1 : (Sl S_impl_Entry)) : Option (Int) :=
  (L (fun w0 go0 => F_impl_CommonOf_B0 fu a_0 b_1 (fun z623 => (some z623)) w0 go0) fu (0 : Int))
def pcf_impl_CommonOf (fu : Nat) (f : Nat) (xs : List (D RT den)) : Option (Out RT den) := none
def pcx_impl_CommonOf (fu : Nat) (f : Nat) (xs : List (D RT den)) (ins : List (Ob RT den)) : Option (OutX RT den) := none
def pc_impl_CommonOf (fu : Nat) : Pc RT den := ⟨pcf_impl_CommonOf fu, fun _ => false, fun _ => false, pcx_impl_CommonOf fu⟩
def msk_impl_CommonOf (b : Nat) : List Nat := match b with | 0 => [2, 3, 4, 6, 7, 8, 9, 10, 11, 12, 13, 14, 15, 16, 17, 18, 19, 20, 21, 22, 23, 24, 25, 26] | 100000 => [0, 1, 2, 3, 6, 7, 8, 9, 10, 11, 12, 13, 14, 15, 16, 17, 18, 19, 20, 21, 22, 23, 24, 25, 26] | 200002 => [23] | _ => []
def ps_impl_CommonOf_0 : List (Pat RT) := [.flat (.rs .impl_Entry), .flat (.rs .impl_Entry), .flat .dead, .flat .dead, .flat .dead, .flat (.int .i64), .flat .dead, .flat .dead, .flat .dead, .flat .dead, .flat .dead, .flat .dead, .flat .dead, .flat .dead, .flat .dead, .flat .dead, .flat .dead, .flat .dead, .flat .dead, .flat .dead, .flat .dead, .flat .dead, .flat .dead, .flat .dead, .flat .dead, .flat .dead, .flat .dead]
def os_impl_CommonOf_0 : List (OP RT) := []
def conv_impl_CommonOf_0 (r : Raw den ps_impl_CommonOf_0 os_impl_CommonOf_0) : ((Sl S_impl_Entry) × (Sl S_impl_Entry)) × (Int) := ((r.1.1, r.1.2.1), r.1.2.2.2.2.2.1)
def back_impl_CommonOf_0 (c : (Sl S_impl_Entry) × (Sl S_impl_Entry)) (w : Int) : St RT den := ⟨[(.rs c.1.z .impl_Entry c.1.n c.1.f), (.rs c.2.z .impl_Entry c.2.n c.2.f), .dead, .dead, .dead, (.int .i64 w), .dead, .dead, .dead, .dead, .dead, .dead, .dead, .dead, .dead, .dead, .dead, .dead, .dead, .dead, .dead, .dead, .dead, .dead, .dead, .dead, .dead], []⟩
def Bk_impl_CommonOf_0 {ρ : Type} (fu : Nat) (c : (Sl S_impl_Entry) × (Sl S_impl_Entry)) (k : Ex → St RT den → Option ρ) (w : Int) (go : (Int) → Option ρ) : Option ρ := F_impl_CommonOf_B0 fu c.1 c.2 (fun a0 => k (.exit 0) ⟨[.dead, .dead, .dead, .dead, .dead, (.int .i64 a0), .dead, .dead, .dead, .dead, .dead, .dead, .dead, .dead, .dead, .dead, .dead, .dead, .dead, .dead, .dead, .dead, .dead, .dead, .dead, .dead, .dead], []⟩) w go
def lp_impl_CommonOf (fu : Nat) : Lp RT den (Int) := fun b s k => match b with | 0 => handle ps_impl_CommonOf_0 os_impl_CommonOf_0 conv_impl_CommonOf_0 (Bk_impl_CommonOf_0 fu) fu s k | _ => none
theorem ev_impl_CommonOf (fu : Nat) (a_0 : (Sl S_impl_Entry)) (b_1 : (Sl S_impl_Entry)) : evFun E (pc_impl_CommonOf fu) msk_impl_CommonOf (lp_impl_CommonOf fu) out_i64 15 [(.rs a_0.z .impl_Entry a_0.n a_0.f), (.rs b_1.z .impl_Entry b_1.n b_1.f)] = F_impl_CommonOf fu a_0 b_1 := by kernel_rfl
noncomputable def body_impl_CommonOf : Code := Try.f15.body.getD .skip
noncomputable def lc_impl_CommonOf_0 : Code := ((loops 0 body_impl_CommonOf).getD 0 (0, .skip)).2
theorem round_impl_CommonOf_0 (fu : Nat) (it : St RT den → Option (Int)) (k : Ex → St RT den → Option (Int)) c w : evCode E (pc_impl_CommonOf fu) msk_impl_CommonOf (lp_impl_CommonOf fu) 0 lc_impl_CommonOf_0 (back_impl_CommonOf_0 c w) (after (msk_impl_CommonOf 0) (msk_impl_CommonOf 100000) 0 it k) = Bk_impl_CommonOf_0 fu c k w (fun w => it (back_impl_CommonOf_0 c w)) := by kernel_rfl
theorem lpok_impl_CommonOf_0 (fu : Nat) : ∀ s k r, lp_impl_CommonOf fu 0 s k = some r → ∃ fuel, iter (msk_impl_CommonOf 0) (msk_impl_CommonOf 100000) s.objs.length (evCode E (pc_impl_CommonOf fu) msk_impl_CommonOf (lp_impl_CommonOf fu) 0 lc_impl_CommonOf_0) fuel s k = some r :=
  handle_ok (ps := ps_impl_CommonOf_0) (os := os_impl_CommonOf_0) (conv := conv_impl_CommonOf_0) (B := Bk_impl_CommonOf_0 fu) (fu := fu) back_impl_CommonOf_0 (fun raw => by kernel_rfl) 0 (fun c w => by kernel_rfl) (round_impl_CommonOf_0 fu)
theorem lpok_impl_CommonOf (fu : Nat) : LpOk E (pc_impl_CommonOf fu) msk_impl_CommonOf (lp_impl_CommonOf fu) (loops 0 body_impl_CommonOf) := loop_all 1 (by kernel_rfl) fun i hi => match i, hi with
  | 0, _ => by
    have h : (loops 0 body_impl_CommonOf).getD 0 (0, .skip) = (0, lc_impl_CommonOf_0) := by kernel_rfl
    rw [h]; exact lpok_impl_CommonOf_0 fu
  | i + 1, hi => absurd hi (by omega)
def S_impl_CommonOf (fu : Nat) (xs : List (D RT den)) : Option (Out RT den) := match xs with | [.rs za0_0 .impl_Entry na0_0 fa0_0, .rs za1_0 .impl_Entry na1_0 fa1_0] => some ⟨Int, F_impl_CommonOf fu (⟨za0_0, na0_0, fa0_0⟩ : (Sl S_impl_Entry)) (⟨za1_0, na1_0, fa1_0⟩ : (Sl S_impl_Entry)), enc_i64, fun _ => true⟩ | _ => none
theorem hpc_impl_CommonOf (fu : Nat) : ∀ f xs o, pcf_impl_CommonOf fu f xs = some o → ∀ y, o.x = some y → Good E Try.prog f xs (o.g y) := by
  intro f xs o h
  cases h
theorem hpx_impl_CommonOf (fu : Nat) : ∀ f xs ins o, pcx_impl_CommonOf fu f xs ins = some o → ∀ y, o.x = some y → GoodX E Try.prog f xs ins (o.g y).1 (o.g y).2 := by
  intro f xs ins o h
  cases h
theorem goodv_impl_CommonOf (fu : Nat) (a_0 : (Sl S_impl_Entry)) (b_1 : (Sl S_impl_Entry)) (y : Int) (hy : F_impl_CommonOf fu a_0 b_1 = some y) : Good E Try.prog 15 [(.rs a_0.z .impl_Entry a_0.n a_0.f), (.rs b_1.z .impl_Entry b_1.n b_1.f)] (enc_i64 y) :=
  fun_good E_ok (pc_good (pc := pc_impl_CommonOf fu) (hpc_impl_CommonOf fu) (hpx_impl_CommonOf fu)) (fn := Try.f15) (c := body_impl_CommonOf) (out := out_i64) (y := y) (by kernel_rfl) (by kernel_rfl) (by kernel_rfl) (lpok_impl_CommonOf fu) (fun d hd => out_i64_enc d _ hd) ((ev_impl_CommonOf fu a_0 b_1).trans hy)
theorem good_impl_CommonOf (fu : Nat) : ∀ xs o, S_impl_CommonOf fu xs = some o → ∀ y, o.x = some y → Good E Try.prog 15 xs (o.g y) := by
  intro xs o h y hy
  unfold S_impl_CommonOf at h
  split at h
  · rename_i za0_0 na0_0 fa0_0 za1_0 na1_0 fa1_0
    cases h
    exact goodv_impl_CommonOf fu (⟨za0_0, na0_0, fa0_0⟩ : (Sl S_impl_Entry)) (⟨za1_0, na1_0, fa1_0⟩ : (Sl S_impl_Entry)) y hy
  · cases h
end Go.Proofs.Ytokpamekcpbkaaa.Pc
