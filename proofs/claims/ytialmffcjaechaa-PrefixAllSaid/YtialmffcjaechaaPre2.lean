/- The package prefix: the longest of lists; the reference; the laws PrefixAll and PrefixTexts. -/
import Derived.Test.YtialmffcjaechaaPre
import Derived.Test.YtialmffcjaechaaAmClosed
namespace Go.AM.G.Pre
open Go.AM hiding Kt At WP WL Runs RunsY
set_option linter.unusedVariables false
set_option linter.unusedSimpArgs false
set_option linter.unusedSectionVars false
attribute [local irreducible] At WP WL Runs

/-- coroner/coronerref01.Same -/
def same : AFn := ⟨2, [.tmp 4],
  (.seq
    (.ops false [
      ⟨(some 4), .mv (.const (.bool false)), none, false⟩])
  (.seq
    (.seq
      (.ops false [
        ⟨(some 6), .mv (.tmp 0), none, false⟩,
        ⟨(some 7), .len 1 (.tmp 6), none, false⟩,
        ⟨(some 8), .mv (.tmp 1), none, false⟩,
        ⟨(some 9), .len 1 (.tmp 8), none, false⟩,
        ⟨(some 10), .bin .neq (.tmp 7) (.tmp 9), none, false⟩])
    (.cond (.tmp 10)
      (.seq
        (.ops false [
          ⟨(some 4), .mv (.const (.bool false)), none, false⟩])
      .ret)
      .skip))
  (.seq
    (.seq
      (.ops false [
        ⟨(some 5), .mv (.const (.int .i64 0)), none, false⟩])
    (.seq (.keep [0, 1, 5])
    (.block 0
      (.loop (.seq
        (.seq
          (.seq
            (.ops false [
              ⟨(some 11), .mv (.tmp 5), none, false⟩,
              ⟨(some 12), .mv (.tmp 0), none, false⟩,
              ⟨(some 13), .len 1 (.tmp 12), none, false⟩,
              ⟨(some 14), .bin .lss (.tmp 11) (.tmp 13), none, false⟩])
          (.cond (.tmp 14)
            .skip
            (.exit 0)))
        (.seq
          (.block 1
            (.seq
              (.ops true [
                ⟨(some 17), .mv (.tmp 0), none, false⟩,
                ⟨(some 18), .mv (.tmp 5), none, false⟩,
                ⟨(some 19), .iaddr 1 (.tmp 17) (.tmp 18), none, false⟩,
                ⟨(some 20), .load1 (.tmp 19), none, false⟩,
                ⟨(some 21), .mv (.tmp 1), none, false⟩,
                ⟨(some 22), .mv (.tmp 5), none, false⟩,
                ⟨(some 23), .iaddr 1 (.tmp 21) (.tmp 22), none, false⟩,
                ⟨(some 24), .load1 (.tmp 23), none, false⟩,
                ⟨(some 25), .bin .neq (.tmp 20) (.tmp 24), none, true⟩])
            (.cond (.tmp 25)
              (.seq
                (.ops false [
                  ⟨(some 4), .mv (.const (.bool false)), none, false⟩])
              .ret)
              .skip)))
        (.ops false [
          ⟨(some 15), .mv (.tmp 5), none, false⟩,
          ⟨(some 16), .bin .add (.tmp 15) (.const (.int .i64 1)), none, false⟩,
          ⟨(some 5), .mv (.tmp 16), none, false⟩])))
        (.keep [0, 1, 5]))))))
  (.seq (.keep [])
  (.seq
    (.ops false [
      ⟨(some 4), .mv (.const (.bool true)), none, false⟩])
  .ret)))))⟩
/-- coroner/coronerref15.Is -/
def rIs (sameN : Nat) : AFn := ⟨2, [.tmp 4],
  (.seq
    (.ops false [
      ⟨(some 4), .mv (.const (.bool false)), none, false⟩])
  (.seq
    (.ops false [
      ⟨(some 5), .mv (.tmp 0), none, false⟩,
      ⟨(some 6), .len 1 (.tmp 5), none, false⟩,
      ⟨(some 7), .mv (.tmp 1), none, false⟩,
      ⟨(some 8), .len 1 (.tmp 7), none, false⟩,
      ⟨(some 9), .bin .leq (.tmp 6) (.tmp 8), none, false⟩,
      ⟨(some 10), .mv (.tmp 9), none, false⟩,
      ⟨(some 11), .mv (.tmp 0), (some (10, true)), false⟩,
      ⟨(some 12), .mv (.tmp 1), (some (10, true)), false⟩,
      ⟨(some 13), .mv (.tmp 0), (some (10, true)), false⟩,
      ⟨(some 14), .len 1 (.tmp 13), (some (10, true)), false⟩,
      ⟨(some 15), .slc 1 (.tmp 12) none (some (.tmp 14)), (some (10, true)), false⟩,
      ⟨(some 16), .call (.func sameN) [(.tmp 11), (.tmp 15)], (some (10, true)), false⟩,
      ⟨(some 17), .pick (.tmp 10) (.tmp 16) (.const (.bool false)), none, false⟩,
      ⟨(some 4), .mv (.tmp 17), none, false⟩])
  .ret))⟩
/-- coroner/coronerref15.Fit -/
def rFit (rIsN : Nat) : AFn := ⟨2, [.tmp 4],
  (.seq
    (.ops false [
      ⟨(some 4), .mv (.const (.bool false)), none, false⟩])
  (.seq
    (.ops false [
      ⟨(some 5), .mv (.tmp 0), none, false⟩,
      ⟨(some 6), .mv (.tmp 1), none, false⟩,
      ⟨(some 7), .call (.func rIsN) [(.tmp 5), (.tmp 6)], none, false⟩,
      ⟨(some 8), .mv (.tmp 7), none, false⟩,
      ⟨(some 9), .mv (.tmp 1), (some (8, false)), false⟩,
      ⟨(some 10), .mv (.tmp 0), (some (8, false)), false⟩,
      ⟨(some 11), .call (.func rIsN) [(.tmp 9), (.tmp 10)], (some (8, false)), false⟩,
      ⟨(some 12), .pick (.tmp 8) (.const (.bool true)) (.tmp 11), none, false⟩,
      ⟨(some 4), .mv (.tmp 12), none, false⟩])
  .ret))⟩
/-- coroner/coronerref15.Few -/
def few : AFn := ⟨1, [.tmp 2],
  (.seq
    (.ops false [
      ⟨(some 2), .mv (.const (.bool false)), none, false⟩])
  (.seq
    (.seq
      (.ops false [
        ⟨(some 4), .mv (.tmp 0), none, false⟩,
        ⟨(some 5), .len 1 (.tmp 4), none, false⟩,
        ⟨(some 6), .bin .gtr (.tmp 5) (.const (.int .i64 20)), none, false⟩])
    (.cond (.tmp 6)
      (.seq
        (.ops false [
          ⟨(some 2), .mv (.const (.bool false)), none, false⟩])
      .ret)
      .skip))
  (.seq
    (.seq
      (.ops false [
        ⟨(some 3), .mv (.const (.int .i64 0)), none, false⟩])
    (.seq (.keep [0, 3])
    (.block 0
      (.loop (.seq
        (.seq
          (.seq
            (.ops false [
              ⟨(some 7), .mv (.tmp 3), none, false⟩,
              ⟨(some 8), .mv (.tmp 0), none, false⟩,
              ⟨(some 9), .len 1 (.tmp 8), none, false⟩,
              ⟨(some 10), .bin .lss (.tmp 7) (.tmp 9), none, false⟩])
          (.cond (.tmp 10)
            .skip
            (.exit 0)))
        (.seq
          (.block 1
            (.seq
              (.ops false [
                ⟨(some 13), .mv (.tmp 0), none, false⟩,
                ⟨(some 14), .mv (.tmp 3), none, false⟩,
                ⟨(some 15), .iaddr 1 (.tmp 13) (.tmp 14), none, false⟩,
                ⟨(some 16), .load1 (.tmp 15), none, false⟩,
                ⟨(some 17), .len 1 (.tmp 16), none, false⟩,
                ⟨(some 18), .bin .gtr (.tmp 17) (.const (.int .i64 40)), none, false⟩])
            (.cond (.tmp 18)
              (.seq
                (.ops false [
                  ⟨(some 2), .mv (.const (.bool false)), none, false⟩])
              .ret)
              .skip)))
        (.ops false [
          ⟨(some 11), .mv (.tmp 3), none, false⟩,
          ⟨(some 12), .bin .add (.tmp 11) (.const (.int .i64 1)), none, false⟩,
          ⟨(some 3), .mv (.tmp 12), none, false⟩])))
        (.keep [0, 3]))))))
  (.seq (.keep [])
  (.seq
    (.ops false [
      ⟨(some 2), .mv (.const (.bool true)), none, false⟩])
  .ret)))))⟩
/-- coroner/coronerlaw15.PrefixAll -/
def allLaw (fewN : Nat) (worksN : Nat) (longestN : Nat) (rFitN : Nat) (rIsN : Nat) : AFn := ⟨1, [.tmp 2],
  (.seq
    (.ops false [
      ⟨(some 2), .mv (.const (.bool false)), none, false⟩])
  (.seq
    (.seq
      (.ops false [
        ⟨(some 9), .mv (.tmp 0), none, false⟩,
        ⟨(some 10), .call (.func fewN) [(.tmp 9)], none, false⟩,
        ⟨(some 11), .un .not (.tmp 10), none, false⟩])
    (.cond (.tmp 11)
      (.seq
        (.ops false [
          ⟨(some 12), .call (.func worksN) [], none, false⟩,
          ⟨(some 2), .mv (.tmp 12), none, false⟩])
      .ret)
      .skip))
  (.seq
    (.ops false [
      ⟨(some 14), .mv (.tmp 0), none, false⟩,
      ⟨(some 15), .call (.func longestN) [(.tmp 14)], none, false⟩,
      ⟨(some 13), .mv (.tmp 15), none, false⟩,
      ⟨(some 16), .extract 0 (.tmp 13), none, false⟩,
      ⟨(some 17), .extract 1 (.tmp 13), none, false⟩,
      ⟨(some 18), .extract 2 (.tmp 13), none, false⟩,
      ⟨(some 19), .extract 3 (.tmp 13), none, false⟩,
      ⟨(some 3), .mv (.tmp 16), none, false⟩,
      ⟨(some 4), .mv (.tmp 17), none, false⟩,
      ⟨(some 5), .mv (.tmp 18), none, false⟩,
      ⟨(some 6), .mv (.tmp 19), none, false⟩])
  (.seq
    (.seq
      (.ops false [
        ⟨(some 20), .mv (.tmp 6), none, false⟩,
        ⟨(some 21), .un .not (.tmp 20), none, false⟩])
    (.cond (.tmp 21)
      (.seq
        (.ops true [
          ⟨(some 22), .mv (.tmp 4), none, true⟩,
          ⟨(some 23), .bin .geq (.tmp 22) (.const (.int .i64 0)), none, true⟩,
          ⟨(some 24), .mv (.tmp 23), none, true⟩,
          ⟨(some 25), .mv (.tmp 4), (some (24, true)), false⟩,
          ⟨(some 26), .mv (.tmp 5), (some (24, true)), false⟩,
          ⟨(some 27), .bin .lss (.tmp 25) (.tmp 26), (some (24, true)), true⟩,
          ⟨(some 28), .pick (.tmp 24) (.tmp 27) (.const (.bool false)), none, true⟩,
          ⟨(some 29), .mv (.tmp 28), none, true⟩,
          ⟨(some 30), .mv (.tmp 5), (some (29, true)), false⟩,
          ⟨(some 31), .mv (.tmp 0), (some (29, true)), false⟩,
          ⟨(some 32), .len 1 (.tmp 31), (some (29, true)), false⟩,
          ⟨(some 33), .bin .lss (.tmp 30) (.tmp 32), (some (29, true)), true⟩,
          ⟨(some 34), .pick (.tmp 29) (.tmp 33) (.const (.bool false)), none, true⟩,
          ⟨(some 35), .mv (.tmp 34), none, true⟩,
          ⟨(some 36), .mv (.tmp 0), (some (35, true)), false⟩,
          ⟨(some 37), .mv (.tmp 4), (some (35, true)), false⟩,
          ⟨(some 38), .iaddr 1 (.tmp 36) (.tmp 37), (some (35, true)), false⟩,
          ⟨(some 39), .load1 (.tmp 38), (some (35, true)), false⟩,
          ⟨(some 40), .mv (.tmp 0), (some (35, true)), false⟩,
          ⟨(some 41), .mv (.tmp 5), (some (35, true)), false⟩,
          ⟨(some 42), .iaddr 1 (.tmp 40) (.tmp 41), (some (35, true)), false⟩,
          ⟨(some 43), .load1 (.tmp 42), (some (35, true)), false⟩,
          ⟨(some 44), .call (.func rFitN) [(.tmp 39), (.tmp 43)], (some (35, true)), true⟩,
          ⟨(some 45), .un .not (.tmp 44), (some (35, true)), true⟩,
          ⟨(some 46), .pick (.tmp 35) (.tmp 45) (.const (.bool false)), none, true⟩,
          ⟨(some 47), .mv (.tmp 46), none, true⟩,
          ⟨(some 48), .mv (.tmp 3), (some (47, true)), true⟩,
          ⟨(some 49), .len 1 (.tmp 48), (some (47, true)), true⟩,
          ⟨(some 50), .bin .eql (.tmp 49) (.const (.int .i64 0)), (some (47, true)), true⟩,
          ⟨(some 51), .pick (.tmp 47) (.tmp 50) (.const (.bool false)), none, true⟩,
          ⟨(some 52), .mv (.tmp 51), none, true⟩,
          ⟨(some 53), .call (.func worksN) [], (some (52, true)), true⟩,
          ⟨(some 54), .pick (.tmp 52) (.tmp 53) (.const (.bool false)), none, true⟩,
          ⟨(some 2), .mv (.tmp 54), none, true⟩])
      .ret)
      .skip))
  (.seq
    (.ops false [
      ⟨(some 55), .mv (.tmp 3), none, false⟩,
      ⟨(some 56), .len 1 (.tmp 55), none, false⟩,
      ⟨(some 57), .bin .eql (.tmp 56) (.const (.int .i64 0)), none, false⟩,
      ⟨(some 7), .mv (.tmp 57), none, false⟩])
  (.seq
    (.seq
      (.ops false [
        ⟨(some 8), .mv (.const (.int .i64 0)), none, false⟩])
    (.seq (.keep [0, 3, 7, 8])
    (.block 0
      (.loop (.seq
        (.seq
          (.seq
            (.ops false [
              ⟨(some 58), .mv (.tmp 8), none, false⟩,
              ⟨(some 59), .mv (.tmp 0), none, false⟩,
              ⟨(some 60), .len 1 (.tmp 59), none, false⟩,
              ⟨(some 61), .bin .lss (.tmp 58) (.tmp 60), none, false⟩])
          (.cond (.tmp 61)
            .skip
            (.exit 0)))
        (.seq
          (.block 1
            (.seq
              (.seq
                (.ops false [
                  ⟨(some 64), .mv (.tmp 0), none, false⟩,
                  ⟨(some 65), .mv (.tmp 8), none, false⟩,
                  ⟨(some 66), .iaddr 1 (.tmp 64) (.tmp 65), none, false⟩,
                  ⟨(some 67), .load1 (.tmp 66), none, false⟩,
                  ⟨(some 68), .mv (.tmp 3), none, false⟩,
                  ⟨(some 69), .call (.func rIsN) [(.tmp 67), (.tmp 68)], none, false⟩,
                  ⟨(some 70), .un .not (.tmp 69), none, false⟩])
              (.cond (.tmp 70)
                (.seq
                  (.ops false [
                    ⟨(some 2), .mv (.const (.bool false)), none, false⟩])
                .ret)
                .skip))
            (.ops false [
              ⟨(some 71), .mv (.tmp 7), none, false⟩,
              ⟨(some 72), .mv (.tmp 71), none, false⟩,
              ⟨(some 73), .mv (.tmp 0), (some (72, false)), false⟩,
              ⟨(some 74), .mv (.tmp 8), (some (72, false)), false⟩,
              ⟨(some 75), .iaddr 1 (.tmp 73) (.tmp 74), (some (72, false)), false⟩,
              ⟨(some 76), .load1 (.tmp 75), (some (72, false)), false⟩,
              ⟨(some 77), .len 1 (.tmp 76), (some (72, false)), false⟩,
              ⟨(some 78), .mv (.tmp 3), (some (72, false)), false⟩,
              ⟨(some 79), .len 1 (.tmp 78), (some (72, false)), false⟩,
              ⟨(some 80), .bin .eql (.tmp 77) (.tmp 79), (some (72, false)), false⟩,
              ⟨(some 81), .pick (.tmp 72) (.const (.bool true)) (.tmp 80), none, false⟩,
              ⟨(some 7), .mv (.tmp 81), none, false⟩])))
        (.ops false [
          ⟨(some 62), .mv (.tmp 8), none, false⟩,
          ⟨(some 63), .bin .add (.tmp 62) (.const (.int .i64 1)), none, false⟩,
          ⟨(some 8), .mv (.tmp 63), none, false⟩])))
        (.keep [0, 3, 7, 8]))))))
  (.seq (.keep [7])
  (.seq
    (.ops false [
      ⟨(some 82), .mv (.tmp 7), none, false⟩,
      ⟨(some 83), .mv (.tmp 82), none, false⟩,
      ⟨(some 84), .call (.func worksN) [], (some (83, true)), false⟩,
      ⟨(some 85), .pick (.tmp 83) (.tmp 84) (.const (.bool false)), none, false⟩,
      ⟨(some 2), .mv (.tmp 85), none, false⟩])
  .ret))))))))⟩
/-- coroner/coronerlaw15.works -/
def works (longestN : Nat) (sameN : Nat) (commonN : Nat) (isPN : Nat) (fitN : Nat) : AFn := ⟨0, [.tmp 0],
  (.seq
    (.ops false [
      ⟨(some 0), .mv (.const (.bool false)), none, false⟩])
  (.seq
    (.ops false [
      ⟨(some 10), .bslice 1 2 [(.int .i64 0), (.int .i64 0)] [(0, (1, (.const (.int .i64 1)))), (1, (1, (.const (.int .i64 2))))], none, false⟩,
      ⟨(some 11), .bslice 1 1 [(.int .i64 0)] [(0, (1, (.const (.int .i64 1))))], none, false⟩,
      ⟨(some 12), .bslice 1 3 [(.int .i64 0), (.int .i64 0), (.int .i64 0)] [(0, (1, (.const (.int .i64 1)))), (1, (1, (.const (.int .i64 2)))), (2, (1, (.const (.int .i64 3))))], none, false⟩,
      ⟨(some 13), .bslice 1 3 [(.slice none 0 0), (.slice none 0 0), (.slice none 0 0)] [(0, (1, (.tmp 10))), (1, (1, (.tmp 11))), (2, (1, (.tmp 12)))], none, false⟩,
      ⟨(some 14), .call (.func longestN) [(.tmp 13)], none, false⟩,
      ⟨(some 9), .mv (.tmp 14), none, false⟩,
      ⟨(some 15), .extract 0 (.tmp 9), none, false⟩,
      ⟨(some 16), .extract 1 (.tmp 9), none, false⟩,
      ⟨(some 17), .extract 2 (.tmp 9), none, false⟩,
      ⟨(some 18), .extract 3 (.tmp 9), none, false⟩,
      ⟨(some 1), .mv (.tmp 15), none, false⟩,
      ⟨(some 2), .mv (.tmp 16), none, false⟩,
      ⟨(some 3), .mv (.tmp 17), none, false⟩,
      ⟨(some 4), .mv (.tmp 18), none, false⟩])
  (.seq
    (.ops false [
      ⟨(some 20), .bslice 1 2 [(.int .i64 0), (.int .i64 0)] [(0, (1, (.const (.int .i64 1)))), (1, (1, (.const (.int .i64 2))))], none, false⟩,
      ⟨(some 21), .bslice 1 1 [(.int .i64 0)] [(0, (1, (.const (.int .i64 1))))], none, false⟩,
      ⟨(some 22), .bslice 1 2 [(.int .i64 0), (.int .i64 0)] [(0, (1, (.const (.int .i64 1)))), (1, (1, (.const (.int .i64 3))))], none, false⟩,
      ⟨(some 23), .bslice 1 3 [(.slice none 0 0), (.slice none 0 0), (.slice none 0 0)] [(0, (1, (.tmp 20))), (1, (1, (.tmp 21))), (2, (1, (.tmp 22)))], none, false⟩,
      ⟨(some 24), .call (.func longestN) [(.tmp 23)], none, false⟩,
      ⟨(some 19), .mv (.tmp 24), none, false⟩,
      ⟨(some 25), .extract 0 (.tmp 19), none, false⟩,
      ⟨(some 26), .extract 1 (.tmp 19), none, false⟩,
      ⟨(some 27), .extract 2 (.tmp 19), none, false⟩,
      ⟨(some 28), .extract 3 (.tmp 19), none, false⟩,
      ⟨(some 5), .mv (.tmp 25), none, false⟩,
      ⟨(some 6), .mv (.tmp 26), none, false⟩,
      ⟨(some 7), .mv (.tmp 27), none, false⟩,
      ⟨(some 8), .mv (.tmp 28), none, false⟩])
  (.seq
    (.ops false [
      ⟨(some 29), .mv (.tmp 1), none, false⟩,
      ⟨(some 30), .bslice 1 3 [(.int .i64 0), (.int .i64 0), (.int .i64 0)] [(0, (1, (.const (.int .i64 1)))), (1, (1, (.const (.int .i64 2)))), (2, (1, (.const (.int .i64 3))))], none, false⟩,
      ⟨(some 31), .call (.func sameN) [(.tmp 29), (.tmp 30)], none, false⟩,
      ⟨(some 32), .mv (.tmp 31), none, false⟩,
      ⟨(some 33), .mv (.tmp 4), (some (32, true)), false⟩,
      ⟨(some 34), .pick (.tmp 32) (.tmp 33) (.const (.bool false)), none, false⟩,
      ⟨(some 35), .mv (.tmp 34), none, false⟩,
      ⟨(some 36), .mv (.tmp 5), (some (35, true)), false⟩,
      ⟨(some 37), .len 1 (.tmp 36), (some (35, true)), false⟩,
      ⟨(some 38), .bin .eql (.tmp 37) (.const (.int .i64 0)), (some (35, true)), false⟩,
      ⟨(some 39), .pick (.tmp 35) (.tmp 38) (.const (.bool false)), none, false⟩,
      ⟨(some 40), .mv (.tmp 39), none, false⟩,
      ⟨(some 41), .mv (.tmp 6), (some (40, true)), false⟩,
      ⟨(some 42), .bin .eql (.tmp 41) (.const (.int .i64 0)), (some (40, true)), false⟩,
      ⟨(some 43), .pick (.tmp 40) (.tmp 42) (.const (.bool false)), none, false⟩,
      ⟨(some 44), .mv (.tmp 43), none, false⟩,
      ⟨(some 45), .mv (.tmp 7), (some (44, true)), false⟩,
      ⟨(some 46), .bin .eql (.tmp 45) (.const (.int .i64 2)), (some (44, true)), false⟩,
      ⟨(some 47), .pick (.tmp 44) (.tmp 46) (.const (.bool false)), none, false⟩,
      ⟨(some 48), .mv (.tmp 47), none, false⟩,
      ⟨(some 49), .mv (.tmp 8), (some (48, true)), false⟩,
      ⟨(some 50), .un .not (.tmp 49), (some (48, true)), false⟩,
      ⟨(some 51), .pick (.tmp 48) (.tmp 50) (.const (.bool false)), none, false⟩,
      ⟨(some 52), .mv (.tmp 51), none, false⟩,
      ⟨(some 53), .bslice 1 2 [(.int .i64 0), (.int .i64 0)] [(0, (1, (.const (.int .i64 1)))), (1, (1, (.const (.int .i64 2))))], (some (52, true)), false⟩,
      ⟨(some 54), .bslice 1 2 [(.int .i64 0), (.int .i64 0)] [(0, (1, (.const (.int .i64 1)))), (1, (1, (.const (.int .i64 3))))], (some (52, true)), false⟩,
      ⟨(some 55), .call (.func commonN) [(.tmp 53), (.tmp 54)], (some (52, true)), false⟩,
      ⟨(some 56), .bin .eql (.tmp 55) (.const (.int .i64 1)), (some (52, true)), false⟩,
      ⟨(some 57), .pick (.tmp 52) (.tmp 56) (.const (.bool false)), none, false⟩,
      ⟨(some 58), .mv (.tmp 57), none, false⟩,
      ⟨(some 59), .bslice 1 0 [] [], (some (58, true)), false⟩,
      ⟨(some 60), .bslice 1 1 [(.int .i64 0)] [(0, (1, (.const (.int .i64 1))))], (some (58, true)), false⟩,
      ⟨(some 61), .call (.func isPN) [(.tmp 59), (.tmp 60)], (some (58, true)), false⟩,
      ⟨(some 62), .pick (.tmp 58) (.tmp 61) (.const (.bool false)), none, false⟩,
      ⟨(some 63), .mv (.tmp 62), none, false⟩,
      ⟨(some 64), .bslice 1 1 [(.int .i64 0)] [(0, (1, (.const (.int .i64 1))))], (some (63, true)), false⟩,
      ⟨(some 65), .bslice 1 1 [(.int .i64 0)] [(0, (1, (.const (.int .i64 1))))], (some (63, true)), false⟩,
      ⟨(some 66), .call (.func fitN) [(.tmp 64), (.tmp 65)], (some (63, true)), false⟩,
      ⟨(some 67), .pick (.tmp 63) (.tmp 66) (.const (.bool false)), none, false⟩,
      ⟨(some 0), .mv (.tmp 67), none, false⟩])
  .ret))))⟩

def badV (k j : Nat) : Value := .tuple #[.slice none 0 0, .int .i64 k, .int .i64 j, .bool false]

section
variable {α : Type} [DecidableEq α] {K : Kind α} {f : α → Value} [iv : IsVal K f] [ie : EqV f] {prog : AProg} {h : Heap} {R : Value → Heap → Prop} {va vb : Value}
include iv ie

theorem longest_runs {fn ff fi fc fcl fa : FuncId} (hp : prog fn = some (.code (longest ff fcl fa))) (hf : prog ff = some (.code (fit fi))) (hi : prog fi = some (.code (isP fc))) (hc : prog fc = some (.code common)) (hcl : prog fcl = some (.code clone)) (hap : prog fa = some (.code (apart ff)))
    {l : List (List α)} (ha : Sl (kSl K) (mem h) va l) (hs : h.prot ≤ h.size) (ll : l.length ≤ 9223372036854775807) (le : ∀ x ∈ l, x.length < 1000000)
    (hR1 : (fineS l).2 = true → ∀ v h', Old h h' → Ow K (mem h) h.size h' v (fineS l).1 → R (.tuple #[v, .int .i64 0, .int .i64 0, .bool true]) h')
    (hR2 : (fineS l).2 = false → ∀ k j, badL l 0 = some (k, j) → R (badV k j) h) : Runs prog fn [va] h R := by
  obtain ⟨pa, ca, rfl⟩ := ha.form
  have small : ∀ n, (fineS (l.take n)).1.length < 1000000 := fun n => fineS_small (fun x hx => le x (List.mem_of_mem_take hx)) (by omega)
  refine runs_here hp rfl ?_
  unfold longest
  repeat' first | refine at_seq ?_ | refine at_ops ?_ | refine at_nil ?_ | refine at_mv rfl ?_ | refine at_lenL rfl ?_ | refine at_guard_t rfl ?_ | refine at_guard_f rfl ?_ | refine at_guard_u rfl ?_ | (refine at_lss rfl rfl (fun _ => ?_) (fun _ => ?_) <;> try (exfalso; omega)) | (refine at_leq rfl rfl (fun _ => ?_) (fun _ => ?_) <;> try (exfalso; omega)) | (refine at_gtr rfl rfl (fun _ => ?_) (fun _ => ?_) <;> try (exfalso; omega)) | (refine at_geq rfl rfl (fun _ => ?_) (fun _ => ?_) <;> try (exfalso; omega)) | (refine at_eql rfl rfl (fun _ => ?_) (fun _ => ?_) <;> try (exfalso; omega)) | (refine at_neq rfl rfl (fun _ => ?_) (fun _ => ?_) <;> try (exfalso; omega)) | refine at_skip ?_ | refine at_true rfl ?_ | refine at_false rfl ?_ | refine at_block ?_ | refine at_blk ?_ | refine at_blk_exit ?_ | refine at_blk_ret ?_ | refine at_c_ret ?_ | refine at_o_ret ?_ | refine at_c_exit ?_ | refine at_blk_pass rfl ?_ | refine at_exit ?_ | refine at_ret ?_ | refine at_kp (by simp only [keep_cons, keep_nil, keepC_some, keepC_none, get_same, get_ne, get_nil, arg_cons, arg_nil, Nat.reduceBEq, Nat.reduceAdd] <;> rfl) ?_ | refine at_inc rfl (by omega) ?_ | refine at_add rfl rfl (by omega) ?_ | refine at_sub rfl rfl (by omega) ?_ | refine at_pick_t rfl rfl ?_ | refine at_pick_f rfl rfl ?_ | refine at_not rfl ?_ | (refine at_iaddr rfl rfl (by assumption) (by omega) (fun _ _ hp => ?_); cases hp) | (refine at_iaddr_int rfl rfl (by assumption) (by omega) (fun _ _ hp => ?_); cases hp) | refine at_elemI rfl (by assumption) (by first | assumption | exact Sub.refl _ | exact St.sub (by assumption)) (by omega) (fun _ => ?_) | refine at_elemB rfl (by assumption) (by first | assumption | exact Sub.refl _ | exact St.sub (by assumption)) (by omega) (fun _ => ?_) (fun _ => ?_) | refine at_elemL rfl (by assumption) (by first | assumption | exact Sub.refl _ | exact St.sub (by assumption)) (by omega) (fun _ _ _ _ => ?_) | refine at_elemS rfl (by assumption) (by first | assumption | exact Sub.refl _ | exact St.sub (by assumption)) (by omega) ?_ | refine at_elemV rfl (by assumption) (by infer_instance) (by first | assumption | exact Sub.refl _ | exact St.sub (by assumption)) (by omega) ?_ | refine at_eqlV rfl rfl (fun _ => ?_) (fun _ => ?_) | refine at_faddr rfl ?_ | refine at_nilc rfl ?_ | refine at_ld rfl (by assumption) rfl rfl ?_ | refine at_opsA ?_ | refine at_apart rfl ?_ | refine at_ap_ret ?_ | refine at_end ?_ | refine at_free rfl rfl ?_
  refine at_loop2 (fun m e h' => h' = h ∧ ∃ (n : Nat) (vb : Value), n ≤ l.length ∧ m = l.length - n ∧ Sl K (mem h) vb (fineS (l.take n)).1 ∧ e = [(0, .slice pa l.length ca), (6, vb), (7, .bool (fineS (l.take n)).2), (13, .slice pa l.length ca), (14, .int .i64 l.length), (15, .int .i64 n)])
    (fun x e h' => x = .exit 0 ∧ h' = h ∧ ∃ vb, Sl K (mem h) vb (fineS l).1 ∧ keepE e [0, 6, 7] = [(0, .slice pa l.length ca), (6, vb), (7, .bool (fineS l).2)]) ⟨rfl, 0, _, Nat.zero_le _, rfl, Sl.nil, rfl⟩ ?_ ?_
  · rintro m e h' _ ⟨rfl, n, vb, hn, rfl, hb, rfl⟩
    obtain ⟨pb, cb, rfl⟩ := hb.form
    have hsm := small n
    cases hq : (fineS (l.take n)).2 with
    | true =>
      repeat' first | refine at_seq ?_ | refine at_ops ?_ | refine at_nil ?_ | refine at_mv rfl ?_ | refine at_lenL rfl ?_ | refine at_guard_t rfl ?_ | refine at_guard_f rfl ?_ | refine at_guard_u rfl ?_ | (refine at_lss rfl rfl (fun _ => ?_) (fun _ => ?_) <;> try (exfalso; omega)) | (refine at_leq rfl rfl (fun _ => ?_) (fun _ => ?_) <;> try (exfalso; omega)) | (refine at_gtr rfl rfl (fun _ => ?_) (fun _ => ?_) <;> try (exfalso; omega)) | (refine at_geq rfl rfl (fun _ => ?_) (fun _ => ?_) <;> try (exfalso; omega)) | (refine at_eql rfl rfl (fun _ => ?_) (fun _ => ?_) <;> try (exfalso; omega)) | (refine at_neq rfl rfl (fun _ => ?_) (fun _ => ?_) <;> try (exfalso; omega)) | refine at_skip ?_ | refine at_true rfl ?_ | refine at_false rfl ?_ | refine at_block ?_ | refine at_blk ?_ | refine at_blk_exit ?_ | refine at_blk_ret ?_ | refine at_c_ret ?_ | refine at_o_ret ?_ | refine at_c_exit ?_ | refine at_blk_pass rfl ?_ | refine at_exit ?_ | refine at_ret ?_ | refine at_kp (by simp only [keep_cons, keep_nil, keepC_some, keepC_none, get_same, get_ne, get_nil, arg_cons, arg_nil, Nat.reduceBEq, Nat.reduceAdd] <;> rfl) ?_ | refine at_inc rfl (by omega) ?_ | refine at_add rfl rfl (by omega) ?_ | refine at_sub rfl rfl (by omega) ?_ | refine at_pick_t rfl rfl ?_ | refine at_pick_f rfl rfl ?_ | refine at_not rfl ?_ | (refine at_iaddr rfl rfl (by assumption) (by omega) (fun _ _ hp => ?_); cases hp) | (refine at_iaddr_int rfl rfl (by assumption) (by omega) (fun _ _ hp => ?_); cases hp) | refine at_elemI rfl (by assumption) (by first | assumption | exact Sub.refl _ | exact St.sub (by assumption)) (by omega) (fun _ => ?_) | refine at_elemB rfl (by assumption) (by first | assumption | exact Sub.refl _ | exact St.sub (by assumption)) (by omega) (fun _ => ?_) (fun _ => ?_) | refine at_elemL rfl (by assumption) (by first | assumption | exact Sub.refl _ | exact St.sub (by assumption)) (by omega) (fun _ _ _ _ => ?_) | refine at_elemS rfl (by assumption) (by first | assumption | exact Sub.refl _ | exact St.sub (by assumption)) (by omega) ?_ | refine at_elemV rfl (by assumption) (by infer_instance) (by first | assumption | exact Sub.refl _ | exact St.sub (by assumption)) (by omega) ?_ | refine at_eqlV rfl rfl (fun _ => ?_) (fun _ => ?_) | refine at_faddr rfl ?_ | refine at_nilc rfl ?_ | refine at_ld rfl (by assumption) rfl rfl ?_ | refine at_opsA ?_ | refine at_apart rfl ?_ | refine at_ap_ret ?_ | refine at_end ?_ | refine at_free rfl rfl ?_
      · have hn2 : n < l.length := by omega
        have hst := fineS_step hn2
        refine at_cl rfl rfl rfl rfl (fit_runs (K := K) (f := f) hf hi hc (by assumption) (by assumption) (by have := maxLen_lt; omega) (by omega) (fun _ _ => ?_))
        repeat' first | refine at_seq ?_ | refine at_ops ?_ | refine at_nil ?_ | refine at_mv rfl ?_ | refine at_lenL rfl ?_ | refine at_guard_t rfl ?_ | refine at_guard_f rfl ?_ | refine at_guard_u rfl ?_ | (refine at_lss rfl rfl (fun _ => ?_) (fun _ => ?_) <;> try (exfalso; omega)) | (refine at_leq rfl rfl (fun _ => ?_) (fun _ => ?_) <;> try (exfalso; omega)) | (refine at_gtr rfl rfl (fun _ => ?_) (fun _ => ?_) <;> try (exfalso; omega)) | (refine at_geq rfl rfl (fun _ => ?_) (fun _ => ?_) <;> try (exfalso; omega)) | (refine at_eql rfl rfl (fun _ => ?_) (fun _ => ?_) <;> try (exfalso; omega)) | (refine at_neq rfl rfl (fun _ => ?_) (fun _ => ?_) <;> try (exfalso; omega)) | refine at_skip ?_ | refine at_true rfl ?_ | refine at_false rfl ?_ | refine at_block ?_ | refine at_blk ?_ | refine at_blk_exit ?_ | refine at_blk_ret ?_ | refine at_c_ret ?_ | refine at_o_ret ?_ | refine at_c_exit ?_ | refine at_blk_pass rfl ?_ | refine at_exit ?_ | refine at_ret ?_ | refine at_kp (by simp only [keep_cons, keep_nil, keepC_some, keepC_none, get_same, get_ne, get_nil, arg_cons, arg_nil, Nat.reduceBEq, Nat.reduceAdd] <;> rfl) ?_ | refine at_inc rfl (by omega) ?_ | refine at_add rfl rfl (by omega) ?_ | refine at_sub rfl rfl (by omega) ?_ | refine at_pick_t rfl rfl ?_ | refine at_pick_f rfl rfl ?_ | refine at_not rfl ?_ | (refine at_iaddr rfl rfl (by assumption) (by omega) (fun _ _ hp => ?_); cases hp) | (refine at_iaddr_int rfl rfl (by assumption) (by omega) (fun _ _ hp => ?_); cases hp) | refine at_elemI rfl (by assumption) (by first | assumption | exact Sub.refl _ | exact St.sub (by assumption)) (by omega) (fun _ => ?_) | refine at_elemB rfl (by assumption) (by first | assumption | exact Sub.refl _ | exact St.sub (by assumption)) (by omega) (fun _ => ?_) (fun _ => ?_) | refine at_elemL rfl (by assumption) (by first | assumption | exact Sub.refl _ | exact St.sub (by assumption)) (by omega) (fun _ _ _ _ => ?_) | refine at_elemS rfl (by assumption) (by first | assumption | exact Sub.refl _ | exact St.sub (by assumption)) (by omega) ?_ | refine at_elemV rfl (by assumption) (by infer_instance) (by first | assumption | exact Sub.refl _ | exact St.sub (by assumption)) (by omega) ?_ | refine at_eqlV rfl rfl (fun _ => ?_) (fun _ => ?_) | refine at_faddr rfl ?_ | refine at_nilc rfl ?_ | refine at_ld rfl (by assumption) rfl rfl ?_ | refine at_opsA ?_ | refine at_apart rfl ?_ | refine at_ap_ret ?_ | refine at_end ?_ | refine at_free rfl rfl ?_
        all_goals
          refine ⟨_, by omega, rfl, n + 1, _, by omega, rfl, ?_, by rw [hst]; unfold fineSt; rw [hq]; rfl⟩
          rw [hst]; unfold fineSt longer
        · rw [if_pos (by omega)]; assumption
        · rw [if_neg (by omega)]; assumption
      · rw [List.take_of_length_le (by omega)] at hq hb
        refine ⟨rfl, rfl, _, hb, ?_⟩
        rw [hq, List.take_of_length_le (by omega)]; exact (by simp only [keep_cons, keep_nil, keepC_some, keepC_none, get_same, get_ne, get_nil, arg_cons, arg_nil, Nat.reduceBEq, Nat.reduceAdd] <;> rfl)
    | false =>
      repeat' first | refine at_seq ?_ | refine at_ops ?_ | refine at_nil ?_ | refine at_mv rfl ?_ | refine at_lenL rfl ?_ | refine at_guard_t rfl ?_ | refine at_guard_f rfl ?_ | refine at_guard_u rfl ?_ | (refine at_lss rfl rfl (fun _ => ?_) (fun _ => ?_) <;> try (exfalso; omega)) | (refine at_leq rfl rfl (fun _ => ?_) (fun _ => ?_) <;> try (exfalso; omega)) | (refine at_gtr rfl rfl (fun _ => ?_) (fun _ => ?_) <;> try (exfalso; omega)) | (refine at_geq rfl rfl (fun _ => ?_) (fun _ => ?_) <;> try (exfalso; omega)) | (refine at_eql rfl rfl (fun _ => ?_) (fun _ => ?_) <;> try (exfalso; omega)) | (refine at_neq rfl rfl (fun _ => ?_) (fun _ => ?_) <;> try (exfalso; omega)) | refine at_skip ?_ | refine at_true rfl ?_ | refine at_false rfl ?_ | refine at_block ?_ | refine at_blk ?_ | refine at_blk_exit ?_ | refine at_blk_ret ?_ | refine at_c_ret ?_ | refine at_o_ret ?_ | refine at_c_exit ?_ | refine at_blk_pass rfl ?_ | refine at_exit ?_ | refine at_ret ?_ | refine at_kp (by simp only [keep_cons, keep_nil, keepC_some, keepC_none, get_same, get_ne, get_nil, arg_cons, arg_nil, Nat.reduceBEq, Nat.reduceAdd] <;> rfl) ?_ | refine at_inc rfl (by omega) ?_ | refine at_add rfl rfl (by omega) ?_ | refine at_sub rfl rfl (by omega) ?_ | refine at_pick_t rfl rfl ?_ | refine at_pick_f rfl rfl ?_ | refine at_not rfl ?_ | (refine at_iaddr rfl rfl (by assumption) (by omega) (fun _ _ hp => ?_); cases hp) | (refine at_iaddr_int rfl rfl (by assumption) (by omega) (fun _ _ hp => ?_); cases hp) | refine at_elemI rfl (by assumption) (by first | assumption | exact Sub.refl _ | exact St.sub (by assumption)) (by omega) (fun _ => ?_) | refine at_elemB rfl (by assumption) (by first | assumption | exact Sub.refl _ | exact St.sub (by assumption)) (by omega) (fun _ => ?_) (fun _ => ?_) | refine at_elemL rfl (by assumption) (by first | assumption | exact Sub.refl _ | exact St.sub (by assumption)) (by omega) (fun _ _ _ _ => ?_) | refine at_elemS rfl (by assumption) (by first | assumption | exact Sub.refl _ | exact St.sub (by assumption)) (by omega) ?_ | refine at_elemV rfl (by assumption) (by infer_instance) (by first | assumption | exact Sub.refl _ | exact St.sub (by assumption)) (by omega) ?_ | refine at_eqlV rfl rfl (fun _ => ?_) (fun _ => ?_) | refine at_faddr rfl ?_ | refine at_nilc rfl ?_ | refine at_ld rfl (by assumption) rfl rfl ?_ | refine at_opsA ?_ | refine at_apart rfl ?_ | refine at_ap_ret ?_ | refine at_end ?_ | refine at_free rfl rfl ?_
      · have hn2 : n < l.length := by omega
        have hst := fineS_step hn2
        all_goals
          refine ⟨_, by omega, rfl, n + 1, _, by omega, rfl, ?_, by rw [hst]; unfold fineSt; rw [hq]; rfl⟩
          rw [hst]; unfold fineSt longer
        rw [if_pos (by omega)]; assumption
      · have hn2 : n < l.length := by omega
        have hst := fineS_step hn2
        refine ⟨_, by omega, rfl, n + 1, _, by omega, rfl, ?_, by rw [hst]; unfold fineSt; rw [hq]; rfl⟩
        rw [hst]; unfold fineSt longer
        rw [if_neg (by omega)]; assumption
      · rw [List.take_of_length_le (by omega)] at hq hb
        refine ⟨rfl, rfl, _, hb, ?_⟩
        rw [hq, List.take_of_length_le (by omega)]; exact (by simp only [keep_cons, keep_nil, keepC_some, keepC_none, get_same, get_ne, get_nil, arg_cons, arg_nil, Nat.reduceBEq, Nat.reduceAdd] <;> rfl)
  · rintro x e h' _ ⟨rfl, rfl, vb, hb, hk⟩
    obtain ⟨pb, cb, rfl⟩ := hb.form
    refine at_blk_exit (at_seq (at_kp hk ?_))
    cases hq : (fineS l).2 with
    | true =>
      repeat' first | refine at_seq ?_ | refine at_ops ?_ | refine at_nil ?_ | refine at_mv rfl ?_ | refine at_lenL rfl ?_ | refine at_guard_t rfl ?_ | refine at_guard_f rfl ?_ | refine at_guard_u rfl ?_ | (refine at_lss rfl rfl (fun _ => ?_) (fun _ => ?_) <;> try (exfalso; omega)) | (refine at_leq rfl rfl (fun _ => ?_) (fun _ => ?_) <;> try (exfalso; omega)) | (refine at_gtr rfl rfl (fun _ => ?_) (fun _ => ?_) <;> try (exfalso; omega)) | (refine at_geq rfl rfl (fun _ => ?_) (fun _ => ?_) <;> try (exfalso; omega)) | (refine at_eql rfl rfl (fun _ => ?_) (fun _ => ?_) <;> try (exfalso; omega)) | (refine at_neq rfl rfl (fun _ => ?_) (fun _ => ?_) <;> try (exfalso; omega)) | refine at_skip ?_ | refine at_true rfl ?_ | refine at_false rfl ?_ | refine at_block ?_ | refine at_blk ?_ | refine at_blk_exit ?_ | refine at_blk_ret ?_ | refine at_c_ret ?_ | refine at_o_ret ?_ | refine at_c_exit ?_ | refine at_blk_pass rfl ?_ | refine at_exit ?_ | refine at_ret ?_ | refine at_kp (by simp only [keep_cons, keep_nil, keepC_some, keepC_none, get_same, get_ne, get_nil, arg_cons, arg_nil, Nat.reduceBEq, Nat.reduceAdd] <;> rfl) ?_ | refine at_inc rfl (by omega) ?_ | refine at_add rfl rfl (by omega) ?_ | refine at_sub rfl rfl (by omega) ?_ | refine at_pick_t rfl rfl ?_ | refine at_pick_f rfl rfl ?_ | refine at_not rfl ?_ | (refine at_iaddr rfl rfl (by assumption) (by omega) (fun _ _ hp => ?_); cases hp) | (refine at_iaddr_int rfl rfl (by assumption) (by omega) (fun _ _ hp => ?_); cases hp) | refine at_elemI rfl (by assumption) (by first | assumption | exact Sub.refl _ | exact St.sub (by assumption)) (by omega) (fun _ => ?_) | refine at_elemB rfl (by assumption) (by first | assumption | exact Sub.refl _ | exact St.sub (by assumption)) (by omega) (fun _ => ?_) (fun _ => ?_) | refine at_elemL rfl (by assumption) (by first | assumption | exact Sub.refl _ | exact St.sub (by assumption)) (by omega) (fun _ _ _ _ => ?_) | refine at_elemS rfl (by assumption) (by first | assumption | exact Sub.refl _ | exact St.sub (by assumption)) (by omega) ?_ | refine at_elemV rfl (by assumption) (by infer_instance) (by first | assumption | exact Sub.refl _ | exact St.sub (by assumption)) (by omega) ?_ | refine at_eqlV rfl rfl (fun _ => ?_) (fun _ => ?_) | refine at_faddr rfl ?_ | refine at_nilc rfl ?_ | refine at_ld rfl (by assumption) rfl rfl ?_ | refine at_opsA ?_ | refine at_apart rfl ?_ | refine at_ap_ret ?_ | refine at_end ?_ | refine at_free rfl rfl ?_
      refine at_cl rfl rfl rfl rfl (clone_runs (K := K) (f := f) hcl hb (Sub.refl _) hs (by have := small l.length; rw [List.take_length] at this; omega) (fun v h2 o w => ?_))
      intro _ _
      repeat' first | refine at_seq ?_ | refine at_ops ?_ | refine at_nil ?_ | refine at_mv rfl ?_ | refine at_lenL rfl ?_ | refine at_guard_t rfl ?_ | refine at_guard_f rfl ?_ | refine at_guard_u rfl ?_ | (refine at_lss rfl rfl (fun _ => ?_) (fun _ => ?_) <;> try (exfalso; omega)) | (refine at_leq rfl rfl (fun _ => ?_) (fun _ => ?_) <;> try (exfalso; omega)) | (refine at_gtr rfl rfl (fun _ => ?_) (fun _ => ?_) <;> try (exfalso; omega)) | (refine at_geq rfl rfl (fun _ => ?_) (fun _ => ?_) <;> try (exfalso; omega)) | (refine at_eql rfl rfl (fun _ => ?_) (fun _ => ?_) <;> try (exfalso; omega)) | (refine at_neq rfl rfl (fun _ => ?_) (fun _ => ?_) <;> try (exfalso; omega)) | refine at_skip ?_ | refine at_true rfl ?_ | refine at_false rfl ?_ | refine at_block ?_ | refine at_blk ?_ | refine at_blk_exit ?_ | refine at_blk_ret ?_ | refine at_c_ret ?_ | refine at_o_ret ?_ | refine at_c_exit ?_ | refine at_blk_pass rfl ?_ | refine at_exit ?_ | refine at_ret ?_ | refine at_kp (by simp only [keep_cons, keep_nil, keepC_some, keepC_none, get_same, get_ne, get_nil, arg_cons, arg_nil, Nat.reduceBEq, Nat.reduceAdd] <;> rfl) ?_ | refine at_inc rfl (by omega) ?_ | refine at_add rfl rfl (by omega) ?_ | refine at_sub rfl rfl (by omega) ?_ | refine at_pick_t rfl rfl ?_ | refine at_pick_f rfl rfl ?_ | refine at_not rfl ?_ | (refine at_iaddr rfl rfl (by assumption) (by omega) (fun _ _ hp => ?_); cases hp) | (refine at_iaddr_int rfl rfl (by assumption) (by omega) (fun _ _ hp => ?_); cases hp) | refine at_elemI rfl (by assumption) (by first | assumption | exact Sub.refl _ | exact St.sub (by assumption)) (by omega) (fun _ => ?_) | refine at_elemB rfl (by assumption) (by first | assumption | exact Sub.refl _ | exact St.sub (by assumption)) (by omega) (fun _ => ?_) (fun _ => ?_) | refine at_elemL rfl (by assumption) (by first | assumption | exact Sub.refl _ | exact St.sub (by assumption)) (by omega) (fun _ _ _ _ => ?_) | refine at_elemS rfl (by assumption) (by first | assumption | exact Sub.refl _ | exact St.sub (by assumption)) (by omega) ?_ | refine at_elemV rfl (by assumption) (by infer_instance) (by first | assumption | exact Sub.refl _ | exact St.sub (by assumption)) (by omega) ?_ | refine at_eqlV rfl rfl (fun _ => ?_) (fun _ => ?_) | refine at_faddr rfl ?_ | refine at_nilc rfl ?_ | refine at_ld rfl (by assumption) rfl rfl ?_ | refine at_opsA ?_ | refine at_apart rfl ?_ | refine at_ap_ret ?_ | refine at_end ?_ | refine at_free rfl rfl ?_
      refine ⟨by simp, _, rfl, ?_⟩
      rw [wp_eq o.prot]
      exact hR1 hq v _ o w
    | false =>
      repeat' first | refine at_seq ?_ | refine at_ops ?_ | refine at_nil ?_ | refine at_mv rfl ?_ | refine at_lenL rfl ?_ | refine at_guard_t rfl ?_ | refine at_guard_f rfl ?_ | refine at_guard_u rfl ?_ | (refine at_lss rfl rfl (fun _ => ?_) (fun _ => ?_) <;> try (exfalso; omega)) | (refine at_leq rfl rfl (fun _ => ?_) (fun _ => ?_) <;> try (exfalso; omega)) | (refine at_gtr rfl rfl (fun _ => ?_) (fun _ => ?_) <;> try (exfalso; omega)) | (refine at_geq rfl rfl (fun _ => ?_) (fun _ => ?_) <;> try (exfalso; omega)) | (refine at_eql rfl rfl (fun _ => ?_) (fun _ => ?_) <;> try (exfalso; omega)) | (refine at_neq rfl rfl (fun _ => ?_) (fun _ => ?_) <;> try (exfalso; omega)) | refine at_skip ?_ | refine at_true rfl ?_ | refine at_false rfl ?_ | refine at_block ?_ | refine at_blk ?_ | refine at_blk_exit ?_ | refine at_blk_ret ?_ | refine at_c_ret ?_ | refine at_o_ret ?_ | refine at_c_exit ?_ | refine at_blk_pass rfl ?_ | refine at_exit ?_ | refine at_ret ?_ | refine at_kp (by simp only [keep_cons, keep_nil, keepC_some, keepC_none, get_same, get_ne, get_nil, arg_cons, arg_nil, Nat.reduceBEq, Nat.reduceAdd] <;> rfl) ?_ | refine at_inc rfl (by omega) ?_ | refine at_add rfl rfl (by omega) ?_ | refine at_sub rfl rfl (by omega) ?_ | refine at_pick_t rfl rfl ?_ | refine at_pick_f rfl rfl ?_ | refine at_not rfl ?_ | (refine at_iaddr rfl rfl (by assumption) (by omega) (fun _ _ hp => ?_); cases hp) | (refine at_iaddr_int rfl rfl (by assumption) (by omega) (fun _ _ hp => ?_); cases hp) | refine at_elemI rfl (by assumption) (by first | assumption | exact Sub.refl _ | exact St.sub (by assumption)) (by omega) (fun _ => ?_) | refine at_elemB rfl (by assumption) (by first | assumption | exact Sub.refl _ | exact St.sub (by assumption)) (by omega) (fun _ => ?_) (fun _ => ?_) | refine at_elemL rfl (by assumption) (by first | assumption | exact Sub.refl _ | exact St.sub (by assumption)) (by omega) (fun _ _ _ _ => ?_) | refine at_elemS rfl (by assumption) (by first | assumption | exact Sub.refl _ | exact St.sub (by assumption)) (by omega) ?_ | refine at_elemV rfl (by assumption) (by infer_instance) (by first | assumption | exact Sub.refl _ | exact St.sub (by assumption)) (by omega) ?_ | refine at_eqlV rfl rfl (fun _ => ?_) (fun _ => ?_) | refine at_faddr rfl ?_ | refine at_nilc rfl ?_ | refine at_ld rfl (by assumption) rfl rfl ?_ | refine at_opsA ?_ | refine at_apart rfl ?_ | refine at_ap_ret ?_ | refine at_end ?_ | refine at_free rfl rfl ?_
      have hbad : badL l 0 ≠ none := fun hn => by rw [← fineS_snd, hq] at hn; cases hn
      refine at_loop2 (fun m e h2 => h2 = h' ∧ ∃ n : Nat, n ≤ l.length ∧ m = l.length - n ∧ badL l 0 = badL (l.drop n) n ∧ e = [(0, .slice pa l.length ca), (36, .int .i64 l.length), (37, .int .i64 n)])
        (fun x e h2 => h2 = h' ∧ x = .ret ∧ ∃ k j : Nat, badL l 0 = some (k, j) ∧ resL e h2 [.tmp 2, .tmp 3, .tmp 4, .tmp 5] = some [.slice none 0 0, .int .i64 k, .int .i64 j, .bool false]) ⟨rfl, 0, Nat.zero_le _, rfl, rfl, rfl⟩ ?_ ?_
      · rintro m e h2 _ ⟨rfl, n, hn, rfl, hI, rfl⟩
        by_cases hn2 : n < l.length
        · rw [badL_step hn2] at hI
          repeat' first | refine at_seq ?_ | refine at_ops ?_ | refine at_nil ?_ | refine at_mv rfl ?_ | refine at_lenL rfl ?_ | refine at_guard_t rfl ?_ | refine at_guard_f rfl ?_ | refine at_guard_u rfl ?_ | (refine at_lss rfl rfl (fun _ => ?_) (fun _ => ?_) <;> try (exfalso; omega)) | (refine at_leq rfl rfl (fun _ => ?_) (fun _ => ?_) <;> try (exfalso; omega)) | (refine at_gtr rfl rfl (fun _ => ?_) (fun _ => ?_) <;> try (exfalso; omega)) | (refine at_geq rfl rfl (fun _ => ?_) (fun _ => ?_) <;> try (exfalso; omega)) | (refine at_eql rfl rfl (fun _ => ?_) (fun _ => ?_) <;> try (exfalso; omega)) | (refine at_neq rfl rfl (fun _ => ?_) (fun _ => ?_) <;> try (exfalso; omega)) | refine at_skip ?_ | refine at_true rfl ?_ | refine at_false rfl ?_ | refine at_block ?_ | refine at_blk ?_ | refine at_blk_exit ?_ | refine at_blk_ret ?_ | refine at_c_ret ?_ | refine at_o_ret ?_ | refine at_c_exit ?_ | refine at_blk_pass rfl ?_ | refine at_exit ?_ | refine at_ret ?_ | refine at_kp (by simp only [keep_cons, keep_nil, keepC_some, keepC_none, get_same, get_ne, get_nil, arg_cons, arg_nil, Nat.reduceBEq, Nat.reduceAdd] <;> rfl) ?_ | refine at_inc rfl (by omega) ?_ | refine at_add rfl rfl (by omega) ?_ | refine at_sub rfl rfl (by omega) ?_ | refine at_pick_t rfl rfl ?_ | refine at_pick_f rfl rfl ?_ | refine at_not rfl ?_ | (refine at_iaddr rfl rfl (by assumption) (by omega) (fun _ _ hp => ?_); cases hp) | (refine at_iaddr_int rfl rfl (by assumption) (by omega) (fun _ _ hp => ?_); cases hp) | refine at_elemI rfl (by assumption) (by first | assumption | exact Sub.refl _ | exact St.sub (by assumption)) (by omega) (fun _ => ?_) | refine at_elemB rfl (by assumption) (by first | assumption | exact Sub.refl _ | exact St.sub (by assumption)) (by omega) (fun _ => ?_) (fun _ => ?_) | refine at_elemL rfl (by assumption) (by first | assumption | exact Sub.refl _ | exact St.sub (by assumption)) (by omega) (fun _ _ _ _ => ?_) | refine at_elemS rfl (by assumption) (by first | assumption | exact Sub.refl _ | exact St.sub (by assumption)) (by omega) ?_ | refine at_elemV rfl (by assumption) (by infer_instance) (by first | assumption | exact Sub.refl _ | exact St.sub (by assumption)) (by omega) ?_ | refine at_eqlV rfl rfl (fun _ => ?_) (fun _ => ?_) | refine at_faddr rfl ?_ | refine at_nilc rfl ?_ | refine at_ld rfl (by assumption) rfl rfl ?_ | refine at_opsA ?_ | refine at_apart rfl ?_ | refine at_ap_ret ?_ | refine at_end ?_ | refine at_free rfl rfl ?_
          refine at_cl rfl rfl rfl rfl (apart_runs (K := K) (f := f) hap hf hi hc ha hn2 (by omega) ?_)
          intro _ _
          cases hj : apartL l[n] (l.drop (n + 1)) (n + 1) with
          | some j =>
            unfold apartV
            repeat' first | refine at_seq ?_ | refine at_ops ?_ | refine at_nil ?_ | refine at_mv rfl ?_ | refine at_lenL rfl ?_ | refine at_guard_t rfl ?_ | refine at_guard_f rfl ?_ | refine at_guard_u rfl ?_ | (refine at_lss rfl rfl (fun _ => ?_) (fun _ => ?_) <;> try (exfalso; omega)) | (refine at_leq rfl rfl (fun _ => ?_) (fun _ => ?_) <;> try (exfalso; omega)) | (refine at_gtr rfl rfl (fun _ => ?_) (fun _ => ?_) <;> try (exfalso; omega)) | (refine at_geq rfl rfl (fun _ => ?_) (fun _ => ?_) <;> try (exfalso; omega)) | (refine at_eql rfl rfl (fun _ => ?_) (fun _ => ?_) <;> try (exfalso; omega)) | (refine at_neq rfl rfl (fun _ => ?_) (fun _ => ?_) <;> try (exfalso; omega)) | refine at_skip ?_ | refine at_true rfl ?_ | refine at_false rfl ?_ | refine at_block ?_ | refine at_blk ?_ | refine at_blk_exit ?_ | refine at_blk_ret ?_ | refine at_c_ret ?_ | refine at_o_ret ?_ | refine at_c_exit ?_ | refine at_blk_pass rfl ?_ | refine at_exit ?_ | refine at_ret ?_ | refine at_kp (by simp only [keep_cons, keep_nil, keepC_some, keepC_none, get_same, get_ne, get_nil, arg_cons, arg_nil, Nat.reduceBEq, Nat.reduceAdd] <;> rfl) ?_ | refine at_inc rfl (by omega) ?_ | refine at_add rfl rfl (by omega) ?_ | refine at_sub rfl rfl (by omega) ?_ | refine at_pick_t rfl rfl ?_ | refine at_pick_f rfl rfl ?_ | refine at_not rfl ?_ | (refine at_iaddr rfl rfl (by assumption) (by omega) (fun _ _ hp => ?_); cases hp) | (refine at_iaddr_int rfl rfl (by assumption) (by omega) (fun _ _ hp => ?_); cases hp) | refine at_elemI rfl (by assumption) (by first | assumption | exact Sub.refl _ | exact St.sub (by assumption)) (by omega) (fun _ => ?_) | refine at_elemB rfl (by assumption) (by first | assumption | exact Sub.refl _ | exact St.sub (by assumption)) (by omega) (fun _ => ?_) (fun _ => ?_) | refine at_elemL rfl (by assumption) (by first | assumption | exact Sub.refl _ | exact St.sub (by assumption)) (by omega) (fun _ _ _ _ => ?_) | refine at_elemS rfl (by assumption) (by first | assumption | exact Sub.refl _ | exact St.sub (by assumption)) (by omega) ?_ | refine at_elemV rfl (by assumption) (by infer_instance) (by first | assumption | exact Sub.refl _ | exact St.sub (by assumption)) (by omega) ?_ | refine at_eqlV rfl rfl (fun _ => ?_) (fun _ => ?_) | refine at_faddr rfl ?_ | refine at_nilc rfl ?_ | refine at_ld rfl (by assumption) rfl rfl ?_ | refine at_opsA ?_ | refine at_apart rfl ?_ | refine at_ap_ret ?_ | refine at_end ?_ | refine at_free rfl rfl ?_
            exact ⟨rfl, rfl, n, j, by rw [hI, hj], rfl⟩
          | none =>
            unfold apartV
            repeat' first | refine at_seq ?_ | refine at_ops ?_ | refine at_nil ?_ | refine at_mv rfl ?_ | refine at_lenL rfl ?_ | refine at_guard_t rfl ?_ | refine at_guard_f rfl ?_ | refine at_guard_u rfl ?_ | (refine at_lss rfl rfl (fun _ => ?_) (fun _ => ?_) <;> try (exfalso; omega)) | (refine at_leq rfl rfl (fun _ => ?_) (fun _ => ?_) <;> try (exfalso; omega)) | (refine at_gtr rfl rfl (fun _ => ?_) (fun _ => ?_) <;> try (exfalso; omega)) | (refine at_geq rfl rfl (fun _ => ?_) (fun _ => ?_) <;> try (exfalso; omega)) | (refine at_eql rfl rfl (fun _ => ?_) (fun _ => ?_) <;> try (exfalso; omega)) | (refine at_neq rfl rfl (fun _ => ?_) (fun _ => ?_) <;> try (exfalso; omega)) | refine at_skip ?_ | refine at_true rfl ?_ | refine at_false rfl ?_ | refine at_block ?_ | refine at_blk ?_ | refine at_blk_exit ?_ | refine at_blk_ret ?_ | refine at_c_ret ?_ | refine at_o_ret ?_ | refine at_c_exit ?_ | refine at_blk_pass rfl ?_ | refine at_exit ?_ | refine at_ret ?_ | refine at_kp (by simp only [keep_cons, keep_nil, keepC_some, keepC_none, get_same, get_ne, get_nil, arg_cons, arg_nil, Nat.reduceBEq, Nat.reduceAdd] <;> rfl) ?_ | refine at_inc rfl (by omega) ?_ | refine at_add rfl rfl (by omega) ?_ | refine at_sub rfl rfl (by omega) ?_ | refine at_pick_t rfl rfl ?_ | refine at_pick_f rfl rfl ?_ | refine at_not rfl ?_ | (refine at_iaddr rfl rfl (by assumption) (by omega) (fun _ _ hp => ?_); cases hp) | (refine at_iaddr_int rfl rfl (by assumption) (by omega) (fun _ _ hp => ?_); cases hp) | refine at_elemI rfl (by assumption) (by first | assumption | exact Sub.refl _ | exact St.sub (by assumption)) (by omega) (fun _ => ?_) | refine at_elemB rfl (by assumption) (by first | assumption | exact Sub.refl _ | exact St.sub (by assumption)) (by omega) (fun _ => ?_) (fun _ => ?_) | refine at_elemL rfl (by assumption) (by first | assumption | exact Sub.refl _ | exact St.sub (by assumption)) (by omega) (fun _ _ _ _ => ?_) | refine at_elemS rfl (by assumption) (by first | assumption | exact Sub.refl _ | exact St.sub (by assumption)) (by omega) ?_ | refine at_elemV rfl (by assumption) (by infer_instance) (by first | assumption | exact Sub.refl _ | exact St.sub (by assumption)) (by omega) ?_ | refine at_eqlV rfl rfl (fun _ => ?_) (fun _ => ?_) | refine at_faddr rfl ?_ | refine at_nilc rfl ?_ | refine at_ld rfl (by assumption) rfl rfl ?_ | refine at_opsA ?_ | refine at_apart rfl ?_ | refine at_ap_ret ?_ | refine at_end ?_ | refine at_free rfl rfl ?_
            exact ⟨_, by omega, rfl, n + 1, by omega, rfl, by rw [hI, hj], rfl⟩
        · exfalso; apply hbad; rw [hI, List.drop_eq_nil_of_le (by omega)]; rfl
      · rintro x e h2 _ ⟨rfl, rfl, k, j, hkj, hk⟩
        repeat' first | refine at_seq ?_ | refine at_ops ?_ | refine at_nil ?_ | refine at_mv rfl ?_ | refine at_lenL rfl ?_ | refine at_guard_t rfl ?_ | refine at_guard_f rfl ?_ | refine at_guard_u rfl ?_ | (refine at_lss rfl rfl (fun _ => ?_) (fun _ => ?_) <;> try (exfalso; omega)) | (refine at_leq rfl rfl (fun _ => ?_) (fun _ => ?_) <;> try (exfalso; omega)) | (refine at_gtr rfl rfl (fun _ => ?_) (fun _ => ?_) <;> try (exfalso; omega)) | (refine at_geq rfl rfl (fun _ => ?_) (fun _ => ?_) <;> try (exfalso; omega)) | (refine at_eql rfl rfl (fun _ => ?_) (fun _ => ?_) <;> try (exfalso; omega)) | (refine at_neq rfl rfl (fun _ => ?_) (fun _ => ?_) <;> try (exfalso; omega)) | refine at_skip ?_ | refine at_true rfl ?_ | refine at_false rfl ?_ | refine at_block ?_ | refine at_blk ?_ | refine at_blk_exit ?_ | refine at_blk_ret ?_ | refine at_c_ret ?_ | refine at_o_ret ?_ | refine at_c_exit ?_ | refine at_blk_pass rfl ?_ | refine at_exit ?_ | refine at_ret ?_ | refine at_kp (by simp only [keep_cons, keep_nil, keepC_some, keepC_none, get_same, get_ne, get_nil, arg_cons, arg_nil, Nat.reduceBEq, Nat.reduceAdd] <;> rfl) ?_ | refine at_inc rfl (by omega) ?_ | refine at_add rfl rfl (by omega) ?_ | refine at_sub rfl rfl (by omega) ?_ | refine at_pick_t rfl rfl ?_ | refine at_pick_f rfl rfl ?_ | refine at_not rfl ?_ | (refine at_iaddr rfl rfl (by assumption) (by omega) (fun _ _ hp => ?_); cases hp) | (refine at_iaddr_int rfl rfl (by assumption) (by omega) (fun _ _ hp => ?_); cases hp) | refine at_elemI rfl (by assumption) (by first | assumption | exact Sub.refl _ | exact St.sub (by assumption)) (by omega) (fun _ => ?_) | refine at_elemB rfl (by assumption) (by first | assumption | exact Sub.refl _ | exact St.sub (by assumption)) (by omega) (fun _ => ?_) (fun _ => ?_) | refine at_elemL rfl (by assumption) (by first | assumption | exact Sub.refl _ | exact St.sub (by assumption)) (by omega) (fun _ _ _ _ => ?_) | refine at_elemS rfl (by assumption) (by first | assumption | exact Sub.refl _ | exact St.sub (by assumption)) (by omega) ?_ | refine at_elemV rfl (by assumption) (by infer_instance) (by first | assumption | exact Sub.refl _ | exact St.sub (by assumption)) (by omega) ?_ | refine at_eqlV rfl rfl (fun _ => ?_) (fun _ => ?_) | refine at_faddr rfl ?_ | refine at_nilc rfl ?_ | refine at_ld rfl (by assumption) rfl rfl ?_ | refine at_opsA ?_ | refine at_apart rfl ?_ | refine at_ap_ret ?_ | refine at_end ?_ | refine at_free rfl rfl ?_
        exact ⟨by simp, _, hk, hR2 hq k j hkj⟩
end

section
variable {prog : AProg} {h : Heap} {R : Value → Heap → Prop} {va vb : Value}
theorem same_runs {fn : FuncId} (hp : prog fn = some (.code same)) {a b : List Int} (ha : Sl (kInt .i64) (mem h) va a) (hb : Sl (kInt .i64) (mem h) vb b) (la : a.length ≤ 9223372036854775807)
    (hR : R (.bool (decide (a = b))) h) : Runs prog fn [va, vb] h R := by
  obtain ⟨pa, ca, rfl⟩ := ha.form
  obtain ⟨pb, cb, rfl⟩ := hb.form
  refine runs_here hp rfl ?_
  unfold same
  repeat' first | refine at_seq ?_ | refine at_ops ?_ | refine at_nil ?_ | refine at_mv rfl ?_ | refine at_lenL rfl ?_ | refine at_guard_t rfl ?_ | refine at_guard_f rfl ?_ | refine at_guard_u rfl ?_ | (refine at_lss rfl rfl (fun _ => ?_) (fun _ => ?_) <;> try (exfalso; omega)) | (refine at_leq rfl rfl (fun _ => ?_) (fun _ => ?_) <;> try (exfalso; omega)) | (refine at_gtr rfl rfl (fun _ => ?_) (fun _ => ?_) <;> try (exfalso; omega)) | (refine at_geq rfl rfl (fun _ => ?_) (fun _ => ?_) <;> try (exfalso; omega)) | (refine at_eql rfl rfl (fun _ => ?_) (fun _ => ?_) <;> try (exfalso; omega)) | (refine at_neq rfl rfl (fun _ => ?_) (fun _ => ?_) <;> try (exfalso; omega)) | refine at_skip ?_ | refine at_true rfl ?_ | refine at_false rfl ?_ | refine at_block ?_ | refine at_blk ?_ | refine at_blk_exit ?_ | refine at_blk_ret ?_ | refine at_c_ret ?_ | refine at_o_ret ?_ | refine at_c_exit ?_ | refine at_blk_pass rfl ?_ | refine at_exit ?_ | refine at_ret ?_ | refine at_kp (by simp only [keep_cons, keep_nil, keepC_some, keepC_none, get_same, get_ne, get_nil, arg_cons, arg_nil, Nat.reduceBEq, Nat.reduceAdd] <;> rfl) ?_ | refine at_inc rfl (by omega) ?_ | refine at_add rfl rfl (by omega) ?_ | refine at_sub rfl rfl (by omega) ?_ | refine at_pick_t rfl rfl ?_ | refine at_pick_f rfl rfl ?_ | refine at_not rfl ?_ | (refine at_iaddr rfl rfl (by assumption) (by omega) (fun _ _ hp => ?_); cases hp) | (refine at_iaddr_int rfl rfl (by assumption) (by omega) (fun _ _ hp => ?_); cases hp) | refine at_elemI rfl (by assumption) (by first | assumption | exact Sub.refl _ | exact St.sub (by assumption)) (by omega) (fun _ => ?_) | refine at_elemB rfl (by assumption) (by first | assumption | exact Sub.refl _ | exact St.sub (by assumption)) (by omega) (fun _ => ?_) (fun _ => ?_) | refine at_elemL rfl (by assumption) (by first | assumption | exact Sub.refl _ | exact St.sub (by assumption)) (by omega) (fun _ _ _ _ => ?_) | refine at_elemS rfl (by assumption) (by first | assumption | exact Sub.refl _ | exact St.sub (by assumption)) (by omega) ?_ | refine at_elemV rfl (by assumption) (by infer_instance) (by first | assumption | exact Sub.refl _ | exact St.sub (by assumption)) (by omega) ?_ | refine at_eqlV rfl rfl (fun _ => ?_) (fun _ => ?_) | refine at_faddr rfl ?_ | refine at_nilc rfl ?_ | refine at_ld rfl (by assumption) rfl rfl ?_ | refine at_opsA ?_ | refine at_apart rfl ?_ | refine at_ap_ret ?_ | refine at_end ?_ | refine at_free rfl rfl ?_
  · refine ⟨by simp, _, rfl, ?_⟩
    rw [decide_eq_false (by rintro rfl; contradiction)] at hR; exact hR
  refine at_loop2 (fun m e h' => h' = h ∧ ∃ n : Nat, n ≤ a.length ∧ m = a.length - n ∧ e = [(0, .slice pa a.length ca), (1, .slice pb b.length cb), (5, .int .i64 n)] ∧ a.take n = b.take n)
    (fun x e h' => h' = h ∧ (x = .exit 0 ∧ a = b ∨ x = .ret ∧ resL e h' [.tmp 4] = some [.bool false] ∧ a ≠ b)) ⟨rfl, 0, Nat.zero_le _, rfl, rfl, by simp⟩ ?_ ?_
  · rintro m e h' _ ⟨rfl, n, hn, rfl, rfl, hI⟩
    repeat' first | refine at_seq ?_ | refine at_ops ?_ | refine at_nil ?_ | refine at_mv rfl ?_ | refine at_lenL rfl ?_ | refine at_guard_t rfl ?_ | refine at_guard_f rfl ?_ | refine at_guard_u rfl ?_ | (refine at_lss rfl rfl (fun _ => ?_) (fun _ => ?_) <;> try (exfalso; omega)) | (refine at_leq rfl rfl (fun _ => ?_) (fun _ => ?_) <;> try (exfalso; omega)) | (refine at_gtr rfl rfl (fun _ => ?_) (fun _ => ?_) <;> try (exfalso; omega)) | (refine at_geq rfl rfl (fun _ => ?_) (fun _ => ?_) <;> try (exfalso; omega)) | (refine at_eql rfl rfl (fun _ => ?_) (fun _ => ?_) <;> try (exfalso; omega)) | (refine at_neq rfl rfl (fun _ => ?_) (fun _ => ?_) <;> try (exfalso; omega)) | refine at_skip ?_ | refine at_true rfl ?_ | refine at_false rfl ?_ | refine at_block ?_ | refine at_blk ?_ | refine at_blk_exit ?_ | refine at_blk_ret ?_ | refine at_c_ret ?_ | refine at_o_ret ?_ | refine at_c_exit ?_ | refine at_blk_pass rfl ?_ | refine at_exit ?_ | refine at_ret ?_ | refine at_kp (by simp only [keep_cons, keep_nil, keepC_some, keepC_none, get_same, get_ne, get_nil, arg_cons, arg_nil, Nat.reduceBEq, Nat.reduceAdd] <;> rfl) ?_ | refine at_inc rfl (by omega) ?_ | refine at_add rfl rfl (by omega) ?_ | refine at_sub rfl rfl (by omega) ?_ | refine at_pick_t rfl rfl ?_ | refine at_pick_f rfl rfl ?_ | refine at_not rfl ?_ | (refine at_iaddr rfl rfl (by assumption) (by omega) (fun _ _ hp => ?_); cases hp) | (refine at_iaddr_int rfl rfl (by assumption) (by omega) (fun _ _ hp => ?_); cases hp) | refine at_elemI rfl (by assumption) (by first | assumption | exact Sub.refl _ | exact St.sub (by assumption)) (by omega) (fun _ => ?_) | refine at_elemB rfl (by assumption) (by first | assumption | exact Sub.refl _ | exact St.sub (by assumption)) (by omega) (fun _ => ?_) (fun _ => ?_) | refine at_elemL rfl (by assumption) (by first | assumption | exact Sub.refl _ | exact St.sub (by assumption)) (by omega) (fun _ _ _ _ => ?_) | refine at_elemS rfl (by assumption) (by first | assumption | exact Sub.refl _ | exact St.sub (by assumption)) (by omega) ?_ | refine at_elemV rfl (by assumption) (by infer_instance) (by first | assumption | exact Sub.refl _ | exact St.sub (by assumption)) (by omega) ?_ | refine at_eqlV rfl rfl (fun _ => ?_) (fun _ => ?_) | refine at_faddr rfl ?_ | refine at_nilc rfl ?_ | refine at_ld rfl (by assumption) rfl rfl ?_ | refine at_opsA ?_ | refine at_apart rfl ?_ | refine at_ap_ret ?_ | refine at_end ?_ | refine at_free rfl rfl ?_
    · exact ⟨rfl, .inr ⟨rfl, rfl, by rintro rfl; contradiction⟩⟩
    · refine ⟨_, by omega, rfl, n + 1, by omega, rfl, rfl, ?_⟩
      rw [List.take_succ_eq_append_getElem (by omega), List.take_succ_eq_append_getElem (by omega), hI]
      congr 2
    · refine ⟨rfl, .inl ⟨rfl, ?_⟩⟩
      rw [List.take_of_length_le (by omega), List.take_of_length_le (by omega)] at hI
      exact hI
  · rintro x e h' _ ⟨rfl, ⟨rfl, hab⟩ | ⟨rfl, he, hab⟩⟩
    · repeat' first | refine at_seq ?_ | refine at_ops ?_ | refine at_nil ?_ | refine at_mv rfl ?_ | refine at_lenL rfl ?_ | refine at_guard_t rfl ?_ | refine at_guard_f rfl ?_ | refine at_guard_u rfl ?_ | (refine at_lss rfl rfl (fun _ => ?_) (fun _ => ?_) <;> try (exfalso; omega)) | (refine at_leq rfl rfl (fun _ => ?_) (fun _ => ?_) <;> try (exfalso; omega)) | (refine at_gtr rfl rfl (fun _ => ?_) (fun _ => ?_) <;> try (exfalso; omega)) | (refine at_geq rfl rfl (fun _ => ?_) (fun _ => ?_) <;> try (exfalso; omega)) | (refine at_eql rfl rfl (fun _ => ?_) (fun _ => ?_) <;> try (exfalso; omega)) | (refine at_neq rfl rfl (fun _ => ?_) (fun _ => ?_) <;> try (exfalso; omega)) | refine at_skip ?_ | refine at_true rfl ?_ | refine at_false rfl ?_ | refine at_block ?_ | refine at_blk ?_ | refine at_blk_exit ?_ | refine at_blk_ret ?_ | refine at_c_ret ?_ | refine at_o_ret ?_ | refine at_c_exit ?_ | refine at_blk_pass rfl ?_ | refine at_exit ?_ | refine at_ret ?_ | refine at_kp (by simp only [keep_cons, keep_nil, keepC_some, keepC_none, get_same, get_ne, get_nil, arg_cons, arg_nil, Nat.reduceBEq, Nat.reduceAdd] <;> rfl) ?_ | refine at_inc rfl (by omega) ?_ | refine at_add rfl rfl (by omega) ?_ | refine at_sub rfl rfl (by omega) ?_ | refine at_pick_t rfl rfl ?_ | refine at_pick_f rfl rfl ?_ | refine at_not rfl ?_ | (refine at_iaddr rfl rfl (by assumption) (by omega) (fun _ _ hp => ?_); cases hp) | (refine at_iaddr_int rfl rfl (by assumption) (by omega) (fun _ _ hp => ?_); cases hp) | refine at_elemI rfl (by assumption) (by first | assumption | exact Sub.refl _ | exact St.sub (by assumption)) (by omega) (fun _ => ?_) | refine at_elemB rfl (by assumption) (by first | assumption | exact Sub.refl _ | exact St.sub (by assumption)) (by omega) (fun _ => ?_) (fun _ => ?_) | refine at_elemL rfl (by assumption) (by first | assumption | exact Sub.refl _ | exact St.sub (by assumption)) (by omega) (fun _ _ _ _ => ?_) | refine at_elemS rfl (by assumption) (by first | assumption | exact Sub.refl _ | exact St.sub (by assumption)) (by omega) ?_ | refine at_elemV rfl (by assumption) (by infer_instance) (by first | assumption | exact Sub.refl _ | exact St.sub (by assumption)) (by omega) ?_ | refine at_eqlV rfl rfl (fun _ => ?_) (fun _ => ?_) | refine at_faddr rfl ?_ | refine at_nilc rfl ?_ | refine at_ld rfl (by assumption) rfl rfl ?_ | refine at_opsA ?_ | refine at_apart rfl ?_ | refine at_ap_ret ?_ | refine at_end ?_ | refine at_free rfl rfl ?_
      refine ⟨by simp, _, rfl, ?_⟩
      rw [decide_eq_true hab] at hR; exact hR
    · repeat' first | refine at_seq ?_ | refine at_ops ?_ | refine at_nil ?_ | refine at_mv rfl ?_ | refine at_lenL rfl ?_ | refine at_guard_t rfl ?_ | refine at_guard_f rfl ?_ | refine at_guard_u rfl ?_ | (refine at_lss rfl rfl (fun _ => ?_) (fun _ => ?_) <;> try (exfalso; omega)) | (refine at_leq rfl rfl (fun _ => ?_) (fun _ => ?_) <;> try (exfalso; omega)) | (refine at_gtr rfl rfl (fun _ => ?_) (fun _ => ?_) <;> try (exfalso; omega)) | (refine at_geq rfl rfl (fun _ => ?_) (fun _ => ?_) <;> try (exfalso; omega)) | (refine at_eql rfl rfl (fun _ => ?_) (fun _ => ?_) <;> try (exfalso; omega)) | (refine at_neq rfl rfl (fun _ => ?_) (fun _ => ?_) <;> try (exfalso; omega)) | refine at_skip ?_ | refine at_true rfl ?_ | refine at_false rfl ?_ | refine at_block ?_ | refine at_blk ?_ | refine at_blk_exit ?_ | refine at_blk_ret ?_ | refine at_c_ret ?_ | refine at_o_ret ?_ | refine at_c_exit ?_ | refine at_blk_pass rfl ?_ | refine at_exit ?_ | refine at_ret ?_ | refine at_kp (by simp only [keep_cons, keep_nil, keepC_some, keepC_none, get_same, get_ne, get_nil, arg_cons, arg_nil, Nat.reduceBEq, Nat.reduceAdd] <;> rfl) ?_ | refine at_inc rfl (by omega) ?_ | refine at_add rfl rfl (by omega) ?_ | refine at_sub rfl rfl (by omega) ?_ | refine at_pick_t rfl rfl ?_ | refine at_pick_f rfl rfl ?_ | refine at_not rfl ?_ | (refine at_iaddr rfl rfl (by assumption) (by omega) (fun _ _ hp => ?_); cases hp) | (refine at_iaddr_int rfl rfl (by assumption) (by omega) (fun _ _ hp => ?_); cases hp) | refine at_elemI rfl (by assumption) (by first | assumption | exact Sub.refl _ | exact St.sub (by assumption)) (by omega) (fun _ => ?_) | refine at_elemB rfl (by assumption) (by first | assumption | exact Sub.refl _ | exact St.sub (by assumption)) (by omega) (fun _ => ?_) (fun _ => ?_) | refine at_elemL rfl (by assumption) (by first | assumption | exact Sub.refl _ | exact St.sub (by assumption)) (by omega) (fun _ _ _ _ => ?_) | refine at_elemS rfl (by assumption) (by first | assumption | exact Sub.refl _ | exact St.sub (by assumption)) (by omega) ?_ | refine at_elemV rfl (by assumption) (by infer_instance) (by first | assumption | exact Sub.refl _ | exact St.sub (by assumption)) (by omega) ?_ | refine at_eqlV rfl rfl (fun _ => ?_) (fun _ => ?_) | refine at_faddr rfl ?_ | refine at_nilc rfl ?_ | refine at_ld rfl (by assumption) rfl rfl ?_ | refine at_opsA ?_ | refine at_apart rfl ?_ | refine at_ap_ret ?_ | refine at_end ?_ | refine at_free rfl rfl ?_
      rw [decide_eq_false hab] at hR
      exact ⟨by simp, _, he, hR⟩

theorem rIs_runs {fn fs : FuncId} (hp : prog fn = some (.code (rIs fs))) (hs : prog fs = some (.code same)) {a b : List Int} (ha : Sl (kInt .i64) (mem h) va a) (hb : Sl (kInt .i64) (mem h) vb b) (la : a.length ≤ 9223372036854775807)
    (hR : R (.bool (isL a b)) h) : Runs prog fn [va, vb] h R := by
  obtain ⟨pa, ca, rfl⟩ := ha.form
  obtain ⟨pb, cb, rfl⟩ := hb.form
  refine runs_here hp rfl ?_
  unfold rIs
  repeat' first | refine at_seq ?_ | refine at_ops ?_ | refine at_nil ?_ | refine at_mv rfl ?_ | refine at_lenL rfl ?_ | refine at_guard_t rfl ?_ | refine at_guard_f rfl ?_ | refine at_guard_u rfl ?_ | (refine at_lss rfl rfl (fun _ => ?_) (fun _ => ?_) <;> try (exfalso; omega)) | (refine at_leq rfl rfl (fun _ => ?_) (fun _ => ?_) <;> try (exfalso; omega)) | (refine at_gtr rfl rfl (fun _ => ?_) (fun _ => ?_) <;> try (exfalso; omega)) | (refine at_geq rfl rfl (fun _ => ?_) (fun _ => ?_) <;> try (exfalso; omega)) | (refine at_eql rfl rfl (fun _ => ?_) (fun _ => ?_) <;> try (exfalso; omega)) | (refine at_neq rfl rfl (fun _ => ?_) (fun _ => ?_) <;> try (exfalso; omega)) | refine at_skip ?_ | refine at_true rfl ?_ | refine at_false rfl ?_ | refine at_block ?_ | refine at_blk ?_ | refine at_blk_exit ?_ | refine at_blk_ret ?_ | refine at_c_ret ?_ | refine at_o_ret ?_ | refine at_c_exit ?_ | refine at_blk_pass rfl ?_ | refine at_exit ?_ | refine at_ret ?_ | refine at_kp (by simp only [keep_cons, keep_nil, keepC_some, keepC_none, get_same, get_ne, get_nil, arg_cons, arg_nil, Nat.reduceBEq, Nat.reduceAdd] <;> rfl) ?_ | refine at_inc rfl (by omega) ?_ | refine at_add rfl rfl (by omega) ?_ | refine at_sub rfl rfl (by omega) ?_ | refine at_pick_t rfl rfl ?_ | refine at_pick_f rfl rfl ?_ | refine at_not rfl ?_ | (refine at_iaddr rfl rfl (by assumption) (by omega) (fun _ _ hp => ?_); cases hp) | (refine at_iaddr_int rfl rfl (by assumption) (by omega) (fun _ _ hp => ?_); cases hp) | refine at_elemI rfl (by assumption) (by first | assumption | exact Sub.refl _ | exact St.sub (by assumption)) (by omega) (fun _ => ?_) | refine at_elemB rfl (by assumption) (by first | assumption | exact Sub.refl _ | exact St.sub (by assumption)) (by omega) (fun _ => ?_) (fun _ => ?_) | refine at_elemL rfl (by assumption) (by first | assumption | exact Sub.refl _ | exact St.sub (by assumption)) (by omega) (fun _ _ _ _ => ?_) | refine at_elemS rfl (by assumption) (by first | assumption | exact Sub.refl _ | exact St.sub (by assumption)) (by omega) ?_ | refine at_elemV rfl (by assumption) (by infer_instance) (by first | assumption | exact Sub.refl _ | exact St.sub (by assumption)) (by omega) ?_ | refine at_eqlV rfl rfl (fun _ => ?_) (fun _ => ?_) | refine at_faddr rfl ?_ | refine at_nilc rfl ?_ | refine at_ld rfl (by assumption) rfl rfl ?_ | refine at_opsA ?_ | refine at_apart rfl ?_ | refine at_ap_ret ?_ | refine at_end ?_ | refine at_free rfl rfl ?_
  · refine at_slc (K := kInt .i64) (i := 0) (j := a.length) rfl hb rfl rfl rfl (Nat.zero_le _) (by omega) (fun p c hs2 => ?_)
    repeat' first | refine at_seq ?_ | refine at_ops ?_ | refine at_nil ?_ | refine at_mv rfl ?_ | refine at_lenL rfl ?_ | refine at_guard_t rfl ?_ | refine at_guard_f rfl ?_ | refine at_guard_u rfl ?_ | (refine at_lss rfl rfl (fun _ => ?_) (fun _ => ?_) <;> try (exfalso; omega)) | (refine at_leq rfl rfl (fun _ => ?_) (fun _ => ?_) <;> try (exfalso; omega)) | (refine at_gtr rfl rfl (fun _ => ?_) (fun _ => ?_) <;> try (exfalso; omega)) | (refine at_geq rfl rfl (fun _ => ?_) (fun _ => ?_) <;> try (exfalso; omega)) | (refine at_eql rfl rfl (fun _ => ?_) (fun _ => ?_) <;> try (exfalso; omega)) | (refine at_neq rfl rfl (fun _ => ?_) (fun _ => ?_) <;> try (exfalso; omega)) | refine at_skip ?_ | refine at_true rfl ?_ | refine at_false rfl ?_ | refine at_block ?_ | refine at_blk ?_ | refine at_blk_exit ?_ | refine at_blk_ret ?_ | refine at_c_ret ?_ | refine at_o_ret ?_ | refine at_c_exit ?_ | refine at_blk_pass rfl ?_ | refine at_exit ?_ | refine at_ret ?_ | refine at_kp (by simp only [keep_cons, keep_nil, keepC_some, keepC_none, get_same, get_ne, get_nil, arg_cons, arg_nil, Nat.reduceBEq, Nat.reduceAdd] <;> rfl) ?_ | refine at_inc rfl (by omega) ?_ | refine at_add rfl rfl (by omega) ?_ | refine at_sub rfl rfl (by omega) ?_ | refine at_pick_t rfl rfl ?_ | refine at_pick_f rfl rfl ?_ | refine at_not rfl ?_ | (refine at_iaddr rfl rfl (by assumption) (by omega) (fun _ _ hp => ?_); cases hp) | (refine at_iaddr_int rfl rfl (by assumption) (by omega) (fun _ _ hp => ?_); cases hp) | refine at_elemI rfl (by assumption) (by first | assumption | exact Sub.refl _ | exact St.sub (by assumption)) (by omega) (fun _ => ?_) | refine at_elemB rfl (by assumption) (by first | assumption | exact Sub.refl _ | exact St.sub (by assumption)) (by omega) (fun _ => ?_) (fun _ => ?_) | refine at_elemL rfl (by assumption) (by first | assumption | exact Sub.refl _ | exact St.sub (by assumption)) (by omega) (fun _ _ _ _ => ?_) | refine at_elemS rfl (by assumption) (by first | assumption | exact Sub.refl _ | exact St.sub (by assumption)) (by omega) ?_ | refine at_elemV rfl (by assumption) (by infer_instance) (by first | assumption | exact Sub.refl _ | exact St.sub (by assumption)) (by omega) ?_ | refine at_eqlV rfl rfl (fun _ => ?_) (fun _ => ?_) | refine at_faddr rfl ?_ | refine at_nilc rfl ?_ | refine at_ld rfl (by assumption) rfl rfl ?_ | refine at_opsA ?_ | refine at_apart rfl ?_ | refine at_ap_ret ?_ | refine at_end ?_ | refine at_free rfl rfl ?_
    refine at_cl rfl rfl rfl rfl (same_runs hs ha hs2 la (fun _ _ => ?_))
    repeat' first | refine at_seq ?_ | refine at_ops ?_ | refine at_nil ?_ | refine at_mv rfl ?_ | refine at_lenL rfl ?_ | refine at_guard_t rfl ?_ | refine at_guard_f rfl ?_ | refine at_guard_u rfl ?_ | (refine at_lss rfl rfl (fun _ => ?_) (fun _ => ?_) <;> try (exfalso; omega)) | (refine at_leq rfl rfl (fun _ => ?_) (fun _ => ?_) <;> try (exfalso; omega)) | (refine at_gtr rfl rfl (fun _ => ?_) (fun _ => ?_) <;> try (exfalso; omega)) | (refine at_geq rfl rfl (fun _ => ?_) (fun _ => ?_) <;> try (exfalso; omega)) | (refine at_eql rfl rfl (fun _ => ?_) (fun _ => ?_) <;> try (exfalso; omega)) | (refine at_neq rfl rfl (fun _ => ?_) (fun _ => ?_) <;> try (exfalso; omega)) | refine at_skip ?_ | refine at_true rfl ?_ | refine at_false rfl ?_ | refine at_block ?_ | refine at_blk ?_ | refine at_blk_exit ?_ | refine at_blk_ret ?_ | refine at_c_ret ?_ | refine at_o_ret ?_ | refine at_c_exit ?_ | refine at_blk_pass rfl ?_ | refine at_exit ?_ | refine at_ret ?_ | refine at_kp (by simp only [keep_cons, keep_nil, keepC_some, keepC_none, get_same, get_ne, get_nil, arg_cons, arg_nil, Nat.reduceBEq, Nat.reduceAdd] <;> rfl) ?_ | refine at_inc rfl (by omega) ?_ | refine at_add rfl rfl (by omega) ?_ | refine at_sub rfl rfl (by omega) ?_ | refine at_pick_t rfl rfl ?_ | refine at_pick_f rfl rfl ?_ | refine at_not rfl ?_ | (refine at_iaddr rfl rfl (by assumption) (by omega) (fun _ _ hp => ?_); cases hp) | (refine at_iaddr_int rfl rfl (by assumption) (by omega) (fun _ _ hp => ?_); cases hp) | refine at_elemI rfl (by assumption) (by first | assumption | exact Sub.refl _ | exact St.sub (by assumption)) (by omega) (fun _ => ?_) | refine at_elemB rfl (by assumption) (by first | assumption | exact Sub.refl _ | exact St.sub (by assumption)) (by omega) (fun _ => ?_) (fun _ => ?_) | refine at_elemL rfl (by assumption) (by first | assumption | exact Sub.refl _ | exact St.sub (by assumption)) (by omega) (fun _ _ _ _ => ?_) | refine at_elemS rfl (by assumption) (by first | assumption | exact Sub.refl _ | exact St.sub (by assumption)) (by omega) ?_ | refine at_elemV rfl (by assumption) (by infer_instance) (by first | assumption | exact Sub.refl _ | exact St.sub (by assumption)) (by omega) ?_ | refine at_eqlV rfl rfl (fun _ => ?_) (fun _ => ?_) | refine at_faddr rfl ?_ | refine at_nilc rfl ?_ | refine at_ld rfl (by assumption) rfl rfl ?_ | refine at_opsA ?_ | refine at_apart rfl ?_ | refine at_ap_ret ?_ | refine at_end ?_ | refine at_free rfl rfl ?_
    refine ⟨by simp, _, rfl, ?_⟩
    have : isL a b = decide (a = (b.drop 0).take (a.length - 0)) := by
      rw [Bool.eq_iff_iff, isL_iff]; simp; omega
    rw [this] at hR; exact hR
  · refine ⟨by simp, _, rfl, ?_⟩
    have : isL a b = false := by
      rw [Bool.eq_false_iff]; intro h2; have := (isL_iff.1 h2).1; omega
    rw [this] at hR; exact hR

theorem rFit_runs {fn fi fs : FuncId} (hp : prog fn = some (.code (rFit fi))) (hi : prog fi = some (.code (rIs fs))) (hs : prog fs = some (.code same)) {a b : List Int} (ha : Sl (kInt .i64) (mem h) va a) (hb : Sl (kInt .i64) (mem h) vb b) (la : a.length ≤ 9223372036854775807) (lb : b.length ≤ 9223372036854775807)
    (hR : R (.bool (fitL a b)) h) : Runs prog fn [va, vb] h R := by
  refine runs_here hp rfl ?_
  unfold rFit
  repeat' first | refine at_seq ?_ | refine at_ops ?_ | refine at_nil ?_ | refine at_mv rfl ?_ | refine at_lenL rfl ?_ | refine at_guard_t rfl ?_ | refine at_guard_f rfl ?_ | refine at_guard_u rfl ?_ | (refine at_lss rfl rfl (fun _ => ?_) (fun _ => ?_) <;> try (exfalso; omega)) | (refine at_leq rfl rfl (fun _ => ?_) (fun _ => ?_) <;> try (exfalso; omega)) | (refine at_gtr rfl rfl (fun _ => ?_) (fun _ => ?_) <;> try (exfalso; omega)) | (refine at_geq rfl rfl (fun _ => ?_) (fun _ => ?_) <;> try (exfalso; omega)) | (refine at_eql rfl rfl (fun _ => ?_) (fun _ => ?_) <;> try (exfalso; omega)) | (refine at_neq rfl rfl (fun _ => ?_) (fun _ => ?_) <;> try (exfalso; omega)) | refine at_skip ?_ | refine at_true rfl ?_ | refine at_false rfl ?_ | refine at_block ?_ | refine at_blk ?_ | refine at_blk_exit ?_ | refine at_blk_ret ?_ | refine at_c_ret ?_ | refine at_o_ret ?_ | refine at_c_exit ?_ | refine at_blk_pass rfl ?_ | refine at_exit ?_ | refine at_ret ?_ | refine at_kp (by simp only [keep_cons, keep_nil, keepC_some, keepC_none, get_same, get_ne, get_nil, arg_cons, arg_nil, Nat.reduceBEq, Nat.reduceAdd] <;> rfl) ?_ | refine at_inc rfl (by omega) ?_ | refine at_add rfl rfl (by omega) ?_ | refine at_sub rfl rfl (by omega) ?_ | refine at_pick_t rfl rfl ?_ | refine at_pick_f rfl rfl ?_ | refine at_not rfl ?_ | (refine at_iaddr rfl rfl (by assumption) (by omega) (fun _ _ hp => ?_); cases hp) | (refine at_iaddr_int rfl rfl (by assumption) (by omega) (fun _ _ hp => ?_); cases hp) | refine at_elemI rfl (by assumption) (by first | assumption | exact Sub.refl _ | exact St.sub (by assumption)) (by omega) (fun _ => ?_) | refine at_elemB rfl (by assumption) (by first | assumption | exact Sub.refl _ | exact St.sub (by assumption)) (by omega) (fun _ => ?_) (fun _ => ?_) | refine at_elemL rfl (by assumption) (by first | assumption | exact Sub.refl _ | exact St.sub (by assumption)) (by omega) (fun _ _ _ _ => ?_) | refine at_elemS rfl (by assumption) (by first | assumption | exact Sub.refl _ | exact St.sub (by assumption)) (by omega) ?_ | refine at_elemV rfl (by assumption) (by infer_instance) (by first | assumption | exact Sub.refl _ | exact St.sub (by assumption)) (by omega) ?_ | refine at_eqlV rfl rfl (fun _ => ?_) (fun _ => ?_) | refine at_faddr rfl ?_ | refine at_nilc rfl ?_ | refine at_ld rfl (by assumption) rfl rfl ?_ | refine at_opsA ?_ | refine at_apart rfl ?_ | refine at_ap_ret ?_ | refine at_end ?_ | refine at_free rfl rfl ?_
  refine at_cl rfl rfl rfl rfl (rIs_runs hi hs ha hb la (fun _ _ => ?_))
  unfold fitL at hR
  cases h1 : isL a b with
  | true =>
    repeat' first | refine at_seq ?_ | refine at_ops ?_ | refine at_nil ?_ | refine at_mv rfl ?_ | refine at_lenL rfl ?_ | refine at_guard_t rfl ?_ | refine at_guard_f rfl ?_ | refine at_guard_u rfl ?_ | (refine at_lss rfl rfl (fun _ => ?_) (fun _ => ?_) <;> try (exfalso; omega)) | (refine at_leq rfl rfl (fun _ => ?_) (fun _ => ?_) <;> try (exfalso; omega)) | (refine at_gtr rfl rfl (fun _ => ?_) (fun _ => ?_) <;> try (exfalso; omega)) | (refine at_geq rfl rfl (fun _ => ?_) (fun _ => ?_) <;> try (exfalso; omega)) | (refine at_eql rfl rfl (fun _ => ?_) (fun _ => ?_) <;> try (exfalso; omega)) | (refine at_neq rfl rfl (fun _ => ?_) (fun _ => ?_) <;> try (exfalso; omega)) | refine at_skip ?_ | refine at_true rfl ?_ | refine at_false rfl ?_ | refine at_block ?_ | refine at_blk ?_ | refine at_blk_exit ?_ | refine at_blk_ret ?_ | refine at_c_ret ?_ | refine at_o_ret ?_ | refine at_c_exit ?_ | refine at_blk_pass rfl ?_ | refine at_exit ?_ | refine at_ret ?_ | refine at_kp (by simp only [keep_cons, keep_nil, keepC_some, keepC_none, get_same, get_ne, get_nil, arg_cons, arg_nil, Nat.reduceBEq, Nat.reduceAdd] <;> rfl) ?_ | refine at_inc rfl (by omega) ?_ | refine at_add rfl rfl (by omega) ?_ | refine at_sub rfl rfl (by omega) ?_ | refine at_pick_t rfl rfl ?_ | refine at_pick_f rfl rfl ?_ | refine at_not rfl ?_ | (refine at_iaddr rfl rfl (by assumption) (by omega) (fun _ _ hp => ?_); cases hp) | (refine at_iaddr_int rfl rfl (by assumption) (by omega) (fun _ _ hp => ?_); cases hp) | refine at_elemI rfl (by assumption) (by first | assumption | exact Sub.refl _ | exact St.sub (by assumption)) (by omega) (fun _ => ?_) | refine at_elemB rfl (by assumption) (by first | assumption | exact Sub.refl _ | exact St.sub (by assumption)) (by omega) (fun _ => ?_) (fun _ => ?_) | refine at_elemL rfl (by assumption) (by first | assumption | exact Sub.refl _ | exact St.sub (by assumption)) (by omega) (fun _ _ _ _ => ?_) | refine at_elemS rfl (by assumption) (by first | assumption | exact Sub.refl _ | exact St.sub (by assumption)) (by omega) ?_ | refine at_elemV rfl (by assumption) (by infer_instance) (by first | assumption | exact Sub.refl _ | exact St.sub (by assumption)) (by omega) ?_ | refine at_eqlV rfl rfl (fun _ => ?_) (fun _ => ?_) | refine at_faddr rfl ?_ | refine at_nilc rfl ?_ | refine at_ld rfl (by assumption) rfl rfl ?_ | refine at_opsA ?_ | refine at_apart rfl ?_ | refine at_ap_ret ?_ | refine at_end ?_ | refine at_free rfl rfl ?_
    refine ⟨by simp, _, rfl, ?_⟩
    rw [h1] at hR; exact hR
  | false =>
    repeat' first | refine at_seq ?_ | refine at_ops ?_ | refine at_nil ?_ | refine at_mv rfl ?_ | refine at_lenL rfl ?_ | refine at_guard_t rfl ?_ | refine at_guard_f rfl ?_ | refine at_guard_u rfl ?_ | (refine at_lss rfl rfl (fun _ => ?_) (fun _ => ?_) <;> try (exfalso; omega)) | (refine at_leq rfl rfl (fun _ => ?_) (fun _ => ?_) <;> try (exfalso; omega)) | (refine at_gtr rfl rfl (fun _ => ?_) (fun _ => ?_) <;> try (exfalso; omega)) | (refine at_geq rfl rfl (fun _ => ?_) (fun _ => ?_) <;> try (exfalso; omega)) | (refine at_eql rfl rfl (fun _ => ?_) (fun _ => ?_) <;> try (exfalso; omega)) | (refine at_neq rfl rfl (fun _ => ?_) (fun _ => ?_) <;> try (exfalso; omega)) | refine at_skip ?_ | refine at_true rfl ?_ | refine at_false rfl ?_ | refine at_block ?_ | refine at_blk ?_ | refine at_blk_exit ?_ | refine at_blk_ret ?_ | refine at_c_ret ?_ | refine at_o_ret ?_ | refine at_c_exit ?_ | refine at_blk_pass rfl ?_ | refine at_exit ?_ | refine at_ret ?_ | refine at_kp (by simp only [keep_cons, keep_nil, keepC_some, keepC_none, get_same, get_ne, get_nil, arg_cons, arg_nil, Nat.reduceBEq, Nat.reduceAdd] <;> rfl) ?_ | refine at_inc rfl (by omega) ?_ | refine at_add rfl rfl (by omega) ?_ | refine at_sub rfl rfl (by omega) ?_ | refine at_pick_t rfl rfl ?_ | refine at_pick_f rfl rfl ?_ | refine at_not rfl ?_ | (refine at_iaddr rfl rfl (by assumption) (by omega) (fun _ _ hp => ?_); cases hp) | (refine at_iaddr_int rfl rfl (by assumption) (by omega) (fun _ _ hp => ?_); cases hp) | refine at_elemI rfl (by assumption) (by first | assumption | exact Sub.refl _ | exact St.sub (by assumption)) (by omega) (fun _ => ?_) | refine at_elemB rfl (by assumption) (by first | assumption | exact Sub.refl _ | exact St.sub (by assumption)) (by omega) (fun _ => ?_) (fun _ => ?_) | refine at_elemL rfl (by assumption) (by first | assumption | exact Sub.refl _ | exact St.sub (by assumption)) (by omega) (fun _ _ _ _ => ?_) | refine at_elemS rfl (by assumption) (by first | assumption | exact Sub.refl _ | exact St.sub (by assumption)) (by omega) ?_ | refine at_elemV rfl (by assumption) (by infer_instance) (by first | assumption | exact Sub.refl _ | exact St.sub (by assumption)) (by omega) ?_ | refine at_eqlV rfl rfl (fun _ => ?_) (fun _ => ?_) | refine at_faddr rfl ?_ | refine at_nilc rfl ?_ | refine at_ld rfl (by assumption) rfl rfl ?_ | refine at_opsA ?_ | refine at_apart rfl ?_ | refine at_ap_ret ?_ | refine at_end ?_ | refine at_free rfl rfl ?_
    refine at_cl rfl rfl rfl rfl (rIs_runs hi hs hb ha lb (fun _ _ => ?_))
    repeat' first | refine at_seq ?_ | refine at_ops ?_ | refine at_nil ?_ | refine at_mv rfl ?_ | refine at_lenL rfl ?_ | refine at_guard_t rfl ?_ | refine at_guard_f rfl ?_ | refine at_guard_u rfl ?_ | (refine at_lss rfl rfl (fun _ => ?_) (fun _ => ?_) <;> try (exfalso; omega)) | (refine at_leq rfl rfl (fun _ => ?_) (fun _ => ?_) <;> try (exfalso; omega)) | (refine at_gtr rfl rfl (fun _ => ?_) (fun _ => ?_) <;> try (exfalso; omega)) | (refine at_geq rfl rfl (fun _ => ?_) (fun _ => ?_) <;> try (exfalso; omega)) | (refine at_eql rfl rfl (fun _ => ?_) (fun _ => ?_) <;> try (exfalso; omega)) | (refine at_neq rfl rfl (fun _ => ?_) (fun _ => ?_) <;> try (exfalso; omega)) | refine at_skip ?_ | refine at_true rfl ?_ | refine at_false rfl ?_ | refine at_block ?_ | refine at_blk ?_ | refine at_blk_exit ?_ | refine at_blk_ret ?_ | refine at_c_ret ?_ | refine at_o_ret ?_ | refine at_c_exit ?_ | refine at_blk_pass rfl ?_ | refine at_exit ?_ | refine at_ret ?_ | refine at_kp (by simp only [keep_cons, keep_nil, keepC_some, keepC_none, get_same, get_ne, get_nil, arg_cons, arg_nil, Nat.reduceBEq, Nat.reduceAdd] <;> rfl) ?_ | refine at_inc rfl (by omega) ?_ | refine at_add rfl rfl (by omega) ?_ | refine at_sub rfl rfl (by omega) ?_ | refine at_pick_t rfl rfl ?_ | refine at_pick_f rfl rfl ?_ | refine at_not rfl ?_ | (refine at_iaddr rfl rfl (by assumption) (by omega) (fun _ _ hp => ?_); cases hp) | (refine at_iaddr_int rfl rfl (by assumption) (by omega) (fun _ _ hp => ?_); cases hp) | refine at_elemI rfl (by assumption) (by first | assumption | exact Sub.refl _ | exact St.sub (by assumption)) (by omega) (fun _ => ?_) | refine at_elemB rfl (by assumption) (by first | assumption | exact Sub.refl _ | exact St.sub (by assumption)) (by omega) (fun _ => ?_) (fun _ => ?_) | refine at_elemL rfl (by assumption) (by first | assumption | exact Sub.refl _ | exact St.sub (by assumption)) (by omega) (fun _ _ _ _ => ?_) | refine at_elemS rfl (by assumption) (by first | assumption | exact Sub.refl _ | exact St.sub (by assumption)) (by omega) ?_ | refine at_elemV rfl (by assumption) (by infer_instance) (by first | assumption | exact Sub.refl _ | exact St.sub (by assumption)) (by omega) ?_ | refine at_eqlV rfl rfl (fun _ => ?_) (fun _ => ?_) | refine at_faddr rfl ?_ | refine at_nilc rfl ?_ | refine at_ld rfl (by assumption) rfl rfl ?_ | refine at_opsA ?_ | refine at_apart rfl ?_ | refine at_ap_ret ?_ | refine at_end ?_ | refine at_free rfl rfl ?_
    refine ⟨by simp, _, rfl, ?_⟩
    rw [h1] at hR; exact hR

theorem few_runs {fn : FuncId} (hp : prog fn = some (.code few)) {l : List (List Int)} (ha : Sl (kSl (kInt .i64)) (mem h) va l)
    (hT : l.length ≤ 20 → (∀ x ∈ l, x.length ≤ 40) → R (.bool true) h) (hF : R (.bool false) h) : Runs prog fn [va] h R := by
  obtain ⟨pa, ca, rfl⟩ := ha.form
  refine runs_here hp rfl ?_
  unfold few
  repeat' first | refine at_seq ?_ | refine at_ops ?_ | refine at_nil ?_ | refine at_mv rfl ?_ | refine at_lenL rfl ?_ | refine at_guard_t rfl ?_ | refine at_guard_f rfl ?_ | refine at_guard_u rfl ?_ | (refine at_lss rfl rfl (fun _ => ?_) (fun _ => ?_) <;> try (exfalso; omega)) | (refine at_leq rfl rfl (fun _ => ?_) (fun _ => ?_) <;> try (exfalso; omega)) | (refine at_gtr rfl rfl (fun _ => ?_) (fun _ => ?_) <;> try (exfalso; omega)) | (refine at_geq rfl rfl (fun _ => ?_) (fun _ => ?_) <;> try (exfalso; omega)) | (refine at_eql rfl rfl (fun _ => ?_) (fun _ => ?_) <;> try (exfalso; omega)) | (refine at_neq rfl rfl (fun _ => ?_) (fun _ => ?_) <;> try (exfalso; omega)) | refine at_skip ?_ | refine at_true rfl ?_ | refine at_false rfl ?_ | refine at_block ?_ | refine at_blk ?_ | refine at_blk_exit ?_ | refine at_blk_ret ?_ | refine at_c_ret ?_ | refine at_o_ret ?_ | refine at_c_exit ?_ | refine at_blk_pass rfl ?_ | refine at_exit ?_ | refine at_ret ?_ | refine at_kp (by simp only [keep_cons, keep_nil, keepC_some, keepC_none, get_same, get_ne, get_nil, arg_cons, arg_nil, Nat.reduceBEq, Nat.reduceAdd] <;> rfl) ?_ | refine at_inc rfl (by omega) ?_ | refine at_add rfl rfl (by omega) ?_ | refine at_sub rfl rfl (by omega) ?_ | refine at_pick_t rfl rfl ?_ | refine at_pick_f rfl rfl ?_ | refine at_not rfl ?_ | (refine at_iaddr rfl rfl (by assumption) (by omega) (fun _ _ hp => ?_); cases hp) | (refine at_iaddr_int rfl rfl (by assumption) (by omega) (fun _ _ hp => ?_); cases hp) | refine at_elemI rfl (by assumption) (by first | assumption | exact Sub.refl _ | exact St.sub (by assumption)) (by omega) (fun _ => ?_) | refine at_elemB rfl (by assumption) (by first | assumption | exact Sub.refl _ | exact St.sub (by assumption)) (by omega) (fun _ => ?_) (fun _ => ?_) | refine at_elemL rfl (by assumption) (by first | assumption | exact Sub.refl _ | exact St.sub (by assumption)) (by omega) (fun _ _ _ _ => ?_) | refine at_elemS rfl (by assumption) (by first | assumption | exact Sub.refl _ | exact St.sub (by assumption)) (by omega) ?_ | refine at_elemV rfl (by assumption) (by infer_instance) (by first | assumption | exact Sub.refl _ | exact St.sub (by assumption)) (by omega) ?_ | refine at_eqlV rfl rfl (fun _ => ?_) (fun _ => ?_) | refine at_faddr rfl ?_ | refine at_nilc rfl ?_ | refine at_ld rfl (by assumption) rfl rfl ?_ | refine at_opsA ?_ | refine at_apart rfl ?_ | refine at_ap_ret ?_ | refine at_end ?_ | refine at_free rfl rfl ?_
  · refine ⟨by simp, _, rfl, ?_⟩
    exact hF
  refine at_loop2 (fun m e h' => h' = h ∧ ∃ n : Nat, n ≤ l.length ∧ m = l.length - n ∧ e = [(0, .slice pa l.length ca), (3, .int .i64 n)] ∧ ∀ x ∈ l.take n, x.length ≤ 40)
    (fun x e h' => h' = h ∧ (x = .exit 0 ∧ (∀ x ∈ l, x.length ≤ 40) ∨ x = .ret ∧ resL e h' [.tmp 2] = some [.bool false])) ⟨rfl, 0, Nat.zero_le _, rfl, rfl, by simp⟩ ?_ ?_
  · rintro m e h' _ ⟨rfl, n, hn, rfl, rfl, hI⟩
    repeat' first | refine at_seq ?_ | refine at_ops ?_ | refine at_nil ?_ | refine at_mv rfl ?_ | refine at_lenL rfl ?_ | refine at_guard_t rfl ?_ | refine at_guard_f rfl ?_ | refine at_guard_u rfl ?_ | (refine at_lss rfl rfl (fun _ => ?_) (fun _ => ?_) <;> try (exfalso; omega)) | (refine at_leq rfl rfl (fun _ => ?_) (fun _ => ?_) <;> try (exfalso; omega)) | (refine at_gtr rfl rfl (fun _ => ?_) (fun _ => ?_) <;> try (exfalso; omega)) | (refine at_geq rfl rfl (fun _ => ?_) (fun _ => ?_) <;> try (exfalso; omega)) | (refine at_eql rfl rfl (fun _ => ?_) (fun _ => ?_) <;> try (exfalso; omega)) | (refine at_neq rfl rfl (fun _ => ?_) (fun _ => ?_) <;> try (exfalso; omega)) | refine at_skip ?_ | refine at_true rfl ?_ | refine at_false rfl ?_ | refine at_block ?_ | refine at_blk ?_ | refine at_blk_exit ?_ | refine at_blk_ret ?_ | refine at_c_ret ?_ | refine at_o_ret ?_ | refine at_c_exit ?_ | refine at_blk_pass rfl ?_ | refine at_exit ?_ | refine at_ret ?_ | refine at_kp (by simp only [keep_cons, keep_nil, keepC_some, keepC_none, get_same, get_ne, get_nil, arg_cons, arg_nil, Nat.reduceBEq, Nat.reduceAdd] <;> rfl) ?_ | refine at_inc rfl (by omega) ?_ | refine at_add rfl rfl (by omega) ?_ | refine at_sub rfl rfl (by omega) ?_ | refine at_pick_t rfl rfl ?_ | refine at_pick_f rfl rfl ?_ | refine at_not rfl ?_ | (refine at_iaddr rfl rfl (by assumption) (by omega) (fun _ _ hp => ?_); cases hp) | (refine at_iaddr_int rfl rfl (by assumption) (by omega) (fun _ _ hp => ?_); cases hp) | refine at_elemI rfl (by assumption) (by first | assumption | exact Sub.refl _ | exact St.sub (by assumption)) (by omega) (fun _ => ?_) | refine at_elemB rfl (by assumption) (by first | assumption | exact Sub.refl _ | exact St.sub (by assumption)) (by omega) (fun _ => ?_) (fun _ => ?_) | refine at_elemL rfl (by assumption) (by first | assumption | exact Sub.refl _ | exact St.sub (by assumption)) (by omega) (fun _ _ _ _ => ?_) | refine at_elemS rfl (by assumption) (by first | assumption | exact Sub.refl _ | exact St.sub (by assumption)) (by omega) ?_ | refine at_elemV rfl (by assumption) (by infer_instance) (by first | assumption | exact Sub.refl _ | exact St.sub (by assumption)) (by omega) ?_ | refine at_eqlV rfl rfl (fun _ => ?_) (fun _ => ?_) | refine at_faddr rfl ?_ | refine at_nilc rfl ?_ | refine at_ld rfl (by assumption) rfl rfl ?_ | refine at_opsA ?_ | refine at_apart rfl ?_ | refine at_ap_ret ?_ | refine at_end ?_ | refine at_free rfl rfl ?_
    · exact ⟨rfl, .inr ⟨rfl, rfl⟩⟩
    · refine ⟨_, by omega, rfl, n + 1, by omega, rfl, rfl, ?_⟩
      rw [List.take_succ_eq_append_getElem (by omega)]
      intro x hx
      rcases List.mem_append.1 hx with hx | hx
      · exact hI x hx
      · simp at hx; subst hx; omega
    · rw [List.take_of_length_le (by omega)] at hI
      exact ⟨rfl, .inl ⟨rfl, hI⟩⟩
  · rintro x e h' _ ⟨rfl, ⟨rfl, hab⟩ | ⟨rfl, he⟩⟩
    · repeat' first | refine at_seq ?_ | refine at_ops ?_ | refine at_nil ?_ | refine at_mv rfl ?_ | refine at_lenL rfl ?_ | refine at_guard_t rfl ?_ | refine at_guard_f rfl ?_ | refine at_guard_u rfl ?_ | (refine at_lss rfl rfl (fun _ => ?_) (fun _ => ?_) <;> try (exfalso; omega)) | (refine at_leq rfl rfl (fun _ => ?_) (fun _ => ?_) <;> try (exfalso; omega)) | (refine at_gtr rfl rfl (fun _ => ?_) (fun _ => ?_) <;> try (exfalso; omega)) | (refine at_geq rfl rfl (fun _ => ?_) (fun _ => ?_) <;> try (exfalso; omega)) | (refine at_eql rfl rfl (fun _ => ?_) (fun _ => ?_) <;> try (exfalso; omega)) | (refine at_neq rfl rfl (fun _ => ?_) (fun _ => ?_) <;> try (exfalso; omega)) | refine at_skip ?_ | refine at_true rfl ?_ | refine at_false rfl ?_ | refine at_block ?_ | refine at_blk ?_ | refine at_blk_exit ?_ | refine at_blk_ret ?_ | refine at_c_ret ?_ | refine at_o_ret ?_ | refine at_c_exit ?_ | refine at_blk_pass rfl ?_ | refine at_exit ?_ | refine at_ret ?_ | refine at_kp (by simp only [keep_cons, keep_nil, keepC_some, keepC_none, get_same, get_ne, get_nil, arg_cons, arg_nil, Nat.reduceBEq, Nat.reduceAdd] <;> rfl) ?_ | refine at_inc rfl (by omega) ?_ | refine at_add rfl rfl (by omega) ?_ | refine at_sub rfl rfl (by omega) ?_ | refine at_pick_t rfl rfl ?_ | refine at_pick_f rfl rfl ?_ | refine at_not rfl ?_ | (refine at_iaddr rfl rfl (by assumption) (by omega) (fun _ _ hp => ?_); cases hp) | (refine at_iaddr_int rfl rfl (by assumption) (by omega) (fun _ _ hp => ?_); cases hp) | refine at_elemI rfl (by assumption) (by first | assumption | exact Sub.refl _ | exact St.sub (by assumption)) (by omega) (fun _ => ?_) | refine at_elemB rfl (by assumption) (by first | assumption | exact Sub.refl _ | exact St.sub (by assumption)) (by omega) (fun _ => ?_) (fun _ => ?_) | refine at_elemL rfl (by assumption) (by first | assumption | exact Sub.refl _ | exact St.sub (by assumption)) (by omega) (fun _ _ _ _ => ?_) | refine at_elemS rfl (by assumption) (by first | assumption | exact Sub.refl _ | exact St.sub (by assumption)) (by omega) ?_ | refine at_elemV rfl (by assumption) (by infer_instance) (by first | assumption | exact Sub.refl _ | exact St.sub (by assumption)) (by omega) ?_ | refine at_eqlV rfl rfl (fun _ => ?_) (fun _ => ?_) | refine at_faddr rfl ?_ | refine at_nilc rfl ?_ | refine at_ld rfl (by assumption) rfl rfl ?_ | refine at_opsA ?_ | refine at_apart rfl ?_ | refine at_ap_ret ?_ | refine at_end ?_ | refine at_free rfl rfl ?_
      refine ⟨by simp, _, rfl, ?_⟩
      exact hT (by omega) hab
    · repeat' first | refine at_seq ?_ | refine at_ops ?_ | refine at_nil ?_ | refine at_mv rfl ?_ | refine at_lenL rfl ?_ | refine at_guard_t rfl ?_ | refine at_guard_f rfl ?_ | refine at_guard_u rfl ?_ | (refine at_lss rfl rfl (fun _ => ?_) (fun _ => ?_) <;> try (exfalso; omega)) | (refine at_leq rfl rfl (fun _ => ?_) (fun _ => ?_) <;> try (exfalso; omega)) | (refine at_gtr rfl rfl (fun _ => ?_) (fun _ => ?_) <;> try (exfalso; omega)) | (refine at_geq rfl rfl (fun _ => ?_) (fun _ => ?_) <;> try (exfalso; omega)) | (refine at_eql rfl rfl (fun _ => ?_) (fun _ => ?_) <;> try (exfalso; omega)) | (refine at_neq rfl rfl (fun _ => ?_) (fun _ => ?_) <;> try (exfalso; omega)) | refine at_skip ?_ | refine at_true rfl ?_ | refine at_false rfl ?_ | refine at_block ?_ | refine at_blk ?_ | refine at_blk_exit ?_ | refine at_blk_ret ?_ | refine at_c_ret ?_ | refine at_o_ret ?_ | refine at_c_exit ?_ | refine at_blk_pass rfl ?_ | refine at_exit ?_ | refine at_ret ?_ | refine at_kp (by simp only [keep_cons, keep_nil, keepC_some, keepC_none, get_same, get_ne, get_nil, arg_cons, arg_nil, Nat.reduceBEq, Nat.reduceAdd] <;> rfl) ?_ | refine at_inc rfl (by omega) ?_ | refine at_add rfl rfl (by omega) ?_ | refine at_sub rfl rfl (by omega) ?_ | refine at_pick_t rfl rfl ?_ | refine at_pick_f rfl rfl ?_ | refine at_not rfl ?_ | (refine at_iaddr rfl rfl (by assumption) (by omega) (fun _ _ hp => ?_); cases hp) | (refine at_iaddr_int rfl rfl (by assumption) (by omega) (fun _ _ hp => ?_); cases hp) | refine at_elemI rfl (by assumption) (by first | assumption | exact Sub.refl _ | exact St.sub (by assumption)) (by omega) (fun _ => ?_) | refine at_elemB rfl (by assumption) (by first | assumption | exact Sub.refl _ | exact St.sub (by assumption)) (by omega) (fun _ => ?_) (fun _ => ?_) | refine at_elemL rfl (by assumption) (by first | assumption | exact Sub.refl _ | exact St.sub (by assumption)) (by omega) (fun _ _ _ _ => ?_) | refine at_elemS rfl (by assumption) (by first | assumption | exact Sub.refl _ | exact St.sub (by assumption)) (by omega) ?_ | refine at_elemV rfl (by assumption) (by infer_instance) (by first | assumption | exact Sub.refl _ | exact St.sub (by assumption)) (by omega) ?_ | refine at_eqlV rfl rfl (fun _ => ?_) (fun _ => ?_) | refine at_faddr rfl ?_ | refine at_nilc rfl ?_ | refine at_ld rfl (by assumption) rfl rfl ?_ | refine at_opsA ?_ | refine at_apart rfl ?_ | refine at_ap_ret ?_ | refine at_end ?_ | refine at_free rfl rfl ?_
      exact ⟨by simp, _, he, hF⟩

theorem allLaw_runs {fn fw ff fi fc fcl fa ffew fl frf fri fs : FuncId} (hp : prog fn = some (.code (allLaw ffew fw fl frf fri))) (hw : prog fw = some (.oracle (closedO (.bool true)))) (hfew : prog ffew = some (.code few))
    (hl : prog fl = some (.code (longest ff fcl fa))) (hf : prog ff = some (.code (fit fi))) (hi : prog fi = some (.code (isP fc))) (hc : prog fc = some (.code common)) (hcl : prog fcl = some (.code clone)) (hap : prog fa = some (.code (apart ff)))
    (hrf : prog frf = some (.code (rFit fri))) (hri : prog fri = some (.code (rIs fs))) (hs : prog fs = some (.code same))
    {l : List (List Int)} (ha : Sl (kSl (kInt .i64)) (mem h) va l) (hprot : h.prot ≤ h.size) : Runs prog fn [va] h (fun v h' => v = .bool true) := by
  obtain ⟨pa, ca, rfl⟩ := ha.form
  refine runs_here hp rfl ?_
  unfold allLaw
  repeat' first | refine at_seq ?_ | refine at_ops ?_ | refine at_nil ?_ | refine at_mv rfl ?_ | refine at_lenL rfl ?_ | refine at_guard_t rfl ?_ | refine at_guard_f rfl ?_ | refine at_guard_u rfl ?_ | (refine at_lss rfl rfl (fun _ => ?_) (fun _ => ?_) <;> try (exfalso; omega)) | (refine at_leq rfl rfl (fun _ => ?_) (fun _ => ?_) <;> try (exfalso; omega)) | (refine at_gtr rfl rfl (fun _ => ?_) (fun _ => ?_) <;> try (exfalso; omega)) | (refine at_geq rfl rfl (fun _ => ?_) (fun _ => ?_) <;> try (exfalso; omega)) | (refine at_eql rfl rfl (fun _ => ?_) (fun _ => ?_) <;> try (exfalso; omega)) | (refine at_neq rfl rfl (fun _ => ?_) (fun _ => ?_) <;> try (exfalso; omega)) | refine at_skip ?_ | refine at_true rfl ?_ | refine at_false rfl ?_ | refine at_block ?_ | refine at_blk ?_ | refine at_blk_exit ?_ | refine at_blk_ret ?_ | refine at_c_ret ?_ | refine at_o_ret ?_ | refine at_c_exit ?_ | refine at_blk_pass rfl ?_ | refine at_exit ?_ | refine at_ret ?_ | refine at_kp (by simp only [keep_cons, keep_nil, keepC_some, keepC_none, get_same, get_ne, get_nil, arg_cons, arg_nil, Nat.reduceBEq, Nat.reduceAdd] <;> rfl) ?_ | refine at_inc rfl (by omega) ?_ | refine at_add rfl rfl (by omega) ?_ | refine at_sub rfl rfl (by omega) ?_ | refine at_pick_t rfl rfl ?_ | refine at_pick_f rfl rfl ?_ | refine at_not rfl ?_ | (refine at_iaddr rfl rfl (by assumption) (by omega) (fun _ _ hp => ?_); cases hp) | (refine at_iaddr_int rfl rfl (by assumption) (by omega) (fun _ _ hp => ?_); cases hp) | refine at_elemI rfl (by assumption) (by first | assumption | exact Sub.refl _ | exact St.sub (by assumption)) (by omega) (fun _ => ?_) | refine at_elemB rfl (by assumption) (by first | assumption | exact Sub.refl _ | exact St.sub (by assumption)) (by omega) (fun _ => ?_) (fun _ => ?_) | refine at_elemL rfl (by assumption) (by first | assumption | exact Sub.refl _ | exact St.sub (by assumption)) (by omega) (fun _ _ _ _ => ?_) | refine at_elemS rfl (by assumption) (by first | assumption | exact Sub.refl _ | exact St.sub (by assumption)) (by omega) ?_ | refine at_elemV rfl (by assumption) (by infer_instance) (by first | assumption | exact Sub.refl _ | exact St.sub (by assumption)) (by omega) ?_ | refine at_eqlV rfl rfl (fun _ => ?_) (fun _ => ?_) | refine at_faddr rfl ?_ | refine at_nilc rfl ?_ | refine at_ld rfl (by assumption) rfl rfl ?_ | refine at_opsA ?_ | refine at_apart rfl ?_ | refine at_ap_ret ?_ | refine at_end ?_ | refine at_free rfl rfl ?_
  refine at_cl rfl rfl rfl rfl (few_runs hfew ha (fun hl1 hl2 => ?_) ?_)
  · intro _ _
    repeat' first | refine at_seq ?_ | refine at_ops ?_ | refine at_nil ?_ | refine at_mv rfl ?_ | refine at_lenL rfl ?_ | refine at_guard_t rfl ?_ | refine at_guard_f rfl ?_ | refine at_guard_u rfl ?_ | (refine at_lss rfl rfl (fun _ => ?_) (fun _ => ?_) <;> try (exfalso; omega)) | (refine at_leq rfl rfl (fun _ => ?_) (fun _ => ?_) <;> try (exfalso; omega)) | (refine at_gtr rfl rfl (fun _ => ?_) (fun _ => ?_) <;> try (exfalso; omega)) | (refine at_geq rfl rfl (fun _ => ?_) (fun _ => ?_) <;> try (exfalso; omega)) | (refine at_eql rfl rfl (fun _ => ?_) (fun _ => ?_) <;> try (exfalso; omega)) | (refine at_neq rfl rfl (fun _ => ?_) (fun _ => ?_) <;> try (exfalso; omega)) | refine at_skip ?_ | refine at_true rfl ?_ | refine at_false rfl ?_ | refine at_block ?_ | refine at_blk ?_ | refine at_blk_exit ?_ | refine at_blk_ret ?_ | refine at_c_ret ?_ | refine at_o_ret ?_ | refine at_c_exit ?_ | refine at_blk_pass rfl ?_ | refine at_exit ?_ | refine at_ret ?_ | refine at_kp (by simp only [keep_cons, keep_nil, keepC_some, keepC_none, get_same, get_ne, get_nil, arg_cons, arg_nil, Nat.reduceBEq, Nat.reduceAdd] <;> rfl) ?_ | refine at_inc rfl (by omega) ?_ | refine at_add rfl rfl (by omega) ?_ | refine at_sub rfl rfl (by omega) ?_ | refine at_pick_t rfl rfl ?_ | refine at_pick_f rfl rfl ?_ | refine at_not rfl ?_ | (refine at_iaddr rfl rfl (by assumption) (by omega) (fun _ _ hp => ?_); cases hp) | (refine at_iaddr_int rfl rfl (by assumption) (by omega) (fun _ _ hp => ?_); cases hp) | refine at_elemI rfl (by assumption) (by first | assumption | exact Sub.refl _ | exact St.sub (by assumption)) (by omega) (fun _ => ?_) | refine at_elemB rfl (by assumption) (by first | assumption | exact Sub.refl _ | exact St.sub (by assumption)) (by omega) (fun _ => ?_) (fun _ => ?_) | refine at_elemL rfl (by assumption) (by first | assumption | exact Sub.refl _ | exact St.sub (by assumption)) (by omega) (fun _ _ _ _ => ?_) | refine at_elemS rfl (by assumption) (by first | assumption | exact Sub.refl _ | exact St.sub (by assumption)) (by omega) ?_ | refine at_elemV rfl (by assumption) (by infer_instance) (by first | assumption | exact Sub.refl _ | exact St.sub (by assumption)) (by omega) ?_ | refine at_eqlV rfl rfl (fun _ => ?_) (fun _ => ?_) | refine at_faddr rfl ?_ | refine at_nilc rfl ?_ | refine at_ld rfl (by assumption) rfl rfl ?_ | refine at_opsA ?_ | refine at_apart rfl ?_ | refine at_ap_ret ?_ | refine at_end ?_ | refine at_free rfl rfl ?_
    refine at_cl rfl rfl rfl rfl (longest_runs (K := kInt .i64) (f := .int .i64) hl hf hi hc hcl hap ha hprot (by omega) (fun x hx => by have := hl2 x hx; omega) (fun hfine v h2 o w => ?_) (fun hfine k j hkj => ?_))
    · intro _ _
      obtain ⟨p2, c2, rfl⟩ := w.form
      have w2 := w.sl o.sub
      have ha2 := ha.mono o.sub
      obtain ⟨hall, hone⟩ := fineS_all hfine
      cases hq0 : decide ((fineS l).1.length = 0)
      all_goals
        simp only [decide_eq_true_eq, decide_eq_false_iff_not] at hq0
        repeat' first | refine at_seq ?_ | refine at_ops ?_ | refine at_nil ?_ | refine at_mv rfl ?_ | refine at_lenL rfl ?_ | refine at_guard_t rfl ?_ | refine at_guard_f rfl ?_ | refine at_guard_u rfl ?_ | (refine at_lss rfl rfl (fun _ => ?_) (fun _ => ?_) <;> try (exfalso; omega)) | (refine at_leq rfl rfl (fun _ => ?_) (fun _ => ?_) <;> try (exfalso; omega)) | (refine at_gtr rfl rfl (fun _ => ?_) (fun _ => ?_) <;> try (exfalso; omega)) | (refine at_geq rfl rfl (fun _ => ?_) (fun _ => ?_) <;> try (exfalso; omega)) | (refine at_eql rfl rfl (fun _ => ?_) (fun _ => ?_) <;> try (exfalso; omega)) | (refine at_neq rfl rfl (fun _ => ?_) (fun _ => ?_) <;> try (exfalso; omega)) | refine at_skip ?_ | refine at_true rfl ?_ | refine at_false rfl ?_ | refine at_block ?_ | refine at_blk ?_ | refine at_blk_exit ?_ | refine at_blk_ret ?_ | refine at_c_ret ?_ | refine at_o_ret ?_ | refine at_c_exit ?_ | refine at_blk_pass rfl ?_ | refine at_exit ?_ | refine at_ret ?_ | refine at_kp (by simp only [keep_cons, keep_nil, keepC_some, keepC_none, get_same, get_ne, get_nil, arg_cons, arg_nil, Nat.reduceBEq, Nat.reduceAdd] <;> rfl) ?_ | refine at_inc rfl (by omega) ?_ | refine at_add rfl rfl (by omega) ?_ | refine at_sub rfl rfl (by omega) ?_ | refine at_pick_t rfl rfl ?_ | refine at_pick_f rfl rfl ?_ | refine at_not rfl ?_ | (refine at_iaddr rfl rfl (by assumption) (by omega) (fun _ _ hp => ?_); cases hp) | (refine at_iaddr_int rfl rfl (by assumption) (by omega) (fun _ _ hp => ?_); cases hp) | refine at_elemI rfl (by assumption) (by first | assumption | exact Sub.refl _ | exact St.sub (by assumption)) (by omega) (fun _ => ?_) | refine at_elemB rfl (by assumption) (by first | assumption | exact Sub.refl _ | exact St.sub (by assumption)) (by omega) (fun _ => ?_) (fun _ => ?_) | refine at_elemL rfl (by assumption) (by first | assumption | exact Sub.refl _ | exact St.sub (by assumption)) (by omega) (fun _ _ _ _ => ?_) | refine at_elemS rfl (by assumption) (by first | assumption | exact Sub.refl _ | exact St.sub (by assumption)) (by omega) ?_ | refine at_elemV rfl (by assumption) (by infer_instance) (by first | assumption | exact Sub.refl _ | exact St.sub (by assumption)) (by omega) ?_ | refine at_eqlV rfl rfl (fun _ => ?_) (fun _ => ?_) | refine at_faddr rfl ?_ | refine at_nilc rfl ?_ | refine at_ld rfl (by assumption) rfl rfl ?_ | refine at_opsA ?_ | refine at_apart rfl ?_ | refine at_ap_ret ?_ | refine at_end ?_ | refine at_free rfl rfl ?_
        refine at_loop2 (fun m e h' => h' = h2 ∧ ∃ (n : Nat) (one : Bool), n ≤ l.length ∧ m = l.length - n ∧ e = [(0, .slice pa l.length ca), (3, .slice p2 (fineS l).1.length c2), (7, .bool one), (8, .int .i64 n)] ∧ ((∃ x ∈ l.take n, x.length = (fineS l).1.length) ∨ (fineS l).1.length = 0 → one = true))
          (fun x e h' => x = .exit 0 ∧ h' = h2 ∧ keepE e [7] = [(7, .bool true)]) ⟨rfl, 0, _, Nat.zero_le _, rfl, rfl, by
            rintro (⟨x, hx, _⟩ | h0)
            · simp at hx
            · first | rfl | omega⟩ ?_ ?_
        · rintro m e h' _ ⟨rfl, n, one, hn, rfl, rfl, hI⟩
          repeat' first | refine at_seq ?_ | refine at_ops ?_ | refine at_nil ?_ | refine at_mv rfl ?_ | refine at_lenL rfl ?_ | refine at_guard_t rfl ?_ | refine at_guard_f rfl ?_ | refine at_guard_u rfl ?_ | (refine at_lss rfl rfl (fun _ => ?_) (fun _ => ?_) <;> try (exfalso; omega)) | (refine at_leq rfl rfl (fun _ => ?_) (fun _ => ?_) <;> try (exfalso; omega)) | (refine at_gtr rfl rfl (fun _ => ?_) (fun _ => ?_) <;> try (exfalso; omega)) | (refine at_geq rfl rfl (fun _ => ?_) (fun _ => ?_) <;> try (exfalso; omega)) | (refine at_eql rfl rfl (fun _ => ?_) (fun _ => ?_) <;> try (exfalso; omega)) | (refine at_neq rfl rfl (fun _ => ?_) (fun _ => ?_) <;> try (exfalso; omega)) | refine at_skip ?_ | refine at_true rfl ?_ | refine at_false rfl ?_ | refine at_block ?_ | refine at_blk ?_ | refine at_blk_exit ?_ | refine at_blk_ret ?_ | refine at_c_ret ?_ | refine at_o_ret ?_ | refine at_c_exit ?_ | refine at_blk_pass rfl ?_ | refine at_exit ?_ | refine at_ret ?_ | refine at_kp (by simp only [keep_cons, keep_nil, keepC_some, keepC_none, get_same, get_ne, get_nil, arg_cons, arg_nil, Nat.reduceBEq, Nat.reduceAdd] <;> rfl) ?_ | refine at_inc rfl (by omega) ?_ | refine at_add rfl rfl (by omega) ?_ | refine at_sub rfl rfl (by omega) ?_ | refine at_pick_t rfl rfl ?_ | refine at_pick_f rfl rfl ?_ | refine at_not rfl ?_ | (refine at_iaddr rfl rfl (by assumption) (by omega) (fun _ _ hp => ?_); cases hp) | (refine at_iaddr_int rfl rfl (by assumption) (by omega) (fun _ _ hp => ?_); cases hp) | refine at_elemI rfl (by assumption) (by first | assumption | exact Sub.refl _ | exact St.sub (by assumption)) (by omega) (fun _ => ?_) | refine at_elemB rfl (by assumption) (by first | assumption | exact Sub.refl _ | exact St.sub (by assumption)) (by omega) (fun _ => ?_) (fun _ => ?_) | refine at_elemL rfl (by assumption) (by first | assumption | exact Sub.refl _ | exact St.sub (by assumption)) (by omega) (fun _ _ _ _ => ?_) | refine at_elemS rfl (by assumption) (by first | assumption | exact Sub.refl _ | exact St.sub (by assumption)) (by omega) ?_ | refine at_elemV rfl (by assumption) (by infer_instance) (by first | assumption | exact Sub.refl _ | exact St.sub (by assumption)) (by omega) ?_ | refine at_eqlV rfl rfl (fun _ => ?_) (fun _ => ?_) | refine at_faddr rfl ?_ | refine at_nilc rfl ?_ | refine at_ld rfl (by assumption) rfl rfl ?_ | refine at_opsA ?_ | refine at_apart rfl ?_ | refine at_ap_ret ?_ | refine at_end ?_ | refine at_free rfl rfl ?_
          · have hn2 : n < l.length := by omega
            have hx := hl2 _ (List.getElem_mem hn2)
            refine at_cl rfl rfl rfl rfl (rIs_runs hri hs (by assumption) w2 (by omega) (fun _ _ => ?_))
            rw [hall _ (List.getElem_mem hn2)]
            cases one
            all_goals
              repeat' first | refine at_seq ?_ | refine at_ops ?_ | refine at_nil ?_ | refine at_mv rfl ?_ | refine at_lenL rfl ?_ | refine at_guard_t rfl ?_ | refine at_guard_f rfl ?_ | refine at_guard_u rfl ?_ | (refine at_lss rfl rfl (fun _ => ?_) (fun _ => ?_) <;> try (exfalso; omega)) | (refine at_leq rfl rfl (fun _ => ?_) (fun _ => ?_) <;> try (exfalso; omega)) | (refine at_gtr rfl rfl (fun _ => ?_) (fun _ => ?_) <;> try (exfalso; omega)) | (refine at_geq rfl rfl (fun _ => ?_) (fun _ => ?_) <;> try (exfalso; omega)) | (refine at_eql rfl rfl (fun _ => ?_) (fun _ => ?_) <;> try (exfalso; omega)) | (refine at_neq rfl rfl (fun _ => ?_) (fun _ => ?_) <;> try (exfalso; omega)) | refine at_skip ?_ | refine at_true rfl ?_ | refine at_false rfl ?_ | refine at_block ?_ | refine at_blk ?_ | refine at_blk_exit ?_ | refine at_blk_ret ?_ | refine at_c_ret ?_ | refine at_o_ret ?_ | refine at_c_exit ?_ | refine at_blk_pass rfl ?_ | refine at_exit ?_ | refine at_ret ?_ | refine at_kp (by simp only [keep_cons, keep_nil, keepC_some, keepC_none, get_same, get_ne, get_nil, arg_cons, arg_nil, Nat.reduceBEq, Nat.reduceAdd] <;> rfl) ?_ | refine at_inc rfl (by omega) ?_ | refine at_add rfl rfl (by omega) ?_ | refine at_sub rfl rfl (by omega) ?_ | refine at_pick_t rfl rfl ?_ | refine at_pick_f rfl rfl ?_ | refine at_not rfl ?_ | (refine at_iaddr rfl rfl (by assumption) (by omega) (fun _ _ hp => ?_); cases hp) | (refine at_iaddr_int rfl rfl (by assumption) (by omega) (fun _ _ hp => ?_); cases hp) | refine at_elemI rfl (by assumption) (by first | assumption | exact Sub.refl _ | exact St.sub (by assumption)) (by omega) (fun _ => ?_) | refine at_elemB rfl (by assumption) (by first | assumption | exact Sub.refl _ | exact St.sub (by assumption)) (by omega) (fun _ => ?_) (fun _ => ?_) | refine at_elemL rfl (by assumption) (by first | assumption | exact Sub.refl _ | exact St.sub (by assumption)) (by omega) (fun _ _ _ _ => ?_) | refine at_elemS rfl (by assumption) (by first | assumption | exact Sub.refl _ | exact St.sub (by assumption)) (by omega) ?_ | refine at_elemV rfl (by assumption) (by infer_instance) (by first | assumption | exact Sub.refl _ | exact St.sub (by assumption)) (by omega) ?_ | refine at_eqlV rfl rfl (fun _ => ?_) (fun _ => ?_) | refine at_faddr rfl ?_ | refine at_nilc rfl ?_ | refine at_ld rfl (by assumption) rfl rfl ?_ | refine at_opsA ?_ | refine at_apart rfl ?_ | refine at_ap_ret ?_ | refine at_end ?_ | refine at_free rfl rfl ?_
              all_goals
                refine ⟨_, by omega, rfl, n + 1, _, by omega, rfl, rfl, ?_⟩
                rw [List.take_succ_eq_append_getElem hn2]
                first
                  | exact fun _ => rfl
                  | (intro h3
                     apply hI
                     rcases h3 with ⟨a, ha, h5⟩ | h3
                     · rcases List.mem_append.1 ha with h4 | h4
                       · exact .inl ⟨a, h4, h5⟩
                       · simp at h4; subst h4; omega
                     · exact .inr h3)
          · refine ⟨rfl, rfl, ?_⟩
            have : one = true := by
              apply hI
              rw [List.take_of_length_le (by omega)]
              rcases hone with h3 | h3
              · exact .inr (by rw [h3]; rfl)
              · exact .inl ⟨_, h3, rfl⟩
            subst this
            exact (by simp only [keep_cons, keep_nil, keepC_some, keepC_none, get_same, get_ne, get_nil, arg_cons, arg_nil, Nat.reduceBEq, Nat.reduceAdd] <;> rfl)
        · rintro x e h' _ ⟨rfl, rfl, hk⟩
          refine at_blk_exit (at_seq (at_kp hk ?_))
          repeat' first | refine at_seq ?_ | refine at_ops ?_ | refine at_nil ?_ | refine at_mv rfl ?_ | refine at_lenL rfl ?_ | refine at_guard_t rfl ?_ | refine at_guard_f rfl ?_ | refine at_guard_u rfl ?_ | (refine at_lss rfl rfl (fun _ => ?_) (fun _ => ?_) <;> try (exfalso; omega)) | (refine at_leq rfl rfl (fun _ => ?_) (fun _ => ?_) <;> try (exfalso; omega)) | (refine at_gtr rfl rfl (fun _ => ?_) (fun _ => ?_) <;> try (exfalso; omega)) | (refine at_geq rfl rfl (fun _ => ?_) (fun _ => ?_) <;> try (exfalso; omega)) | (refine at_eql rfl rfl (fun _ => ?_) (fun _ => ?_) <;> try (exfalso; omega)) | (refine at_neq rfl rfl (fun _ => ?_) (fun _ => ?_) <;> try (exfalso; omega)) | refine at_skip ?_ | refine at_true rfl ?_ | refine at_false rfl ?_ | refine at_block ?_ | refine at_blk ?_ | refine at_blk_exit ?_ | refine at_blk_ret ?_ | refine at_c_ret ?_ | refine at_o_ret ?_ | refine at_c_exit ?_ | refine at_blk_pass rfl ?_ | refine at_exit ?_ | refine at_ret ?_ | refine at_kp (by simp only [keep_cons, keep_nil, keepC_some, keepC_none, get_same, get_ne, get_nil, arg_cons, arg_nil, Nat.reduceBEq, Nat.reduceAdd] <;> rfl) ?_ | refine at_inc rfl (by omega) ?_ | refine at_add rfl rfl (by omega) ?_ | refine at_sub rfl rfl (by omega) ?_ | refine at_pick_t rfl rfl ?_ | refine at_pick_f rfl rfl ?_ | refine at_not rfl ?_ | (refine at_iaddr rfl rfl (by assumption) (by omega) (fun _ _ hp => ?_); cases hp) | (refine at_iaddr_int rfl rfl (by assumption) (by omega) (fun _ _ hp => ?_); cases hp) | refine at_elemI rfl (by assumption) (by first | assumption | exact Sub.refl _ | exact St.sub (by assumption)) (by omega) (fun _ => ?_) | refine at_elemB rfl (by assumption) (by first | assumption | exact Sub.refl _ | exact St.sub (by assumption)) (by omega) (fun _ => ?_) (fun _ => ?_) | refine at_elemL rfl (by assumption) (by first | assumption | exact Sub.refl _ | exact St.sub (by assumption)) (by omega) (fun _ _ _ _ => ?_) | refine at_elemS rfl (by assumption) (by first | assumption | exact Sub.refl _ | exact St.sub (by assumption)) (by omega) ?_ | refine at_elemV rfl (by assumption) (by infer_instance) (by first | assumption | exact Sub.refl _ | exact St.sub (by assumption)) (by omega) ?_ | refine at_eqlV rfl rfl (fun _ => ?_) (fun _ => ?_) | refine at_faddr rfl ?_ | refine at_nilc rfl ?_ | refine at_ld rfl (by assumption) rfl rfl ?_ | refine at_opsA ?_ | refine at_apart rfl ?_ | refine at_ap_ret ?_ | refine at_end ?_ | refine at_free rfl rfl ?_
          refine at_cl rfl rfl rfl rfl (runs_oracle hw (fun _ => rfl) (fun _ _ => ?_))
          repeat' first | refine at_seq ?_ | refine at_ops ?_ | refine at_nil ?_ | refine at_mv rfl ?_ | refine at_lenL rfl ?_ | refine at_guard_t rfl ?_ | refine at_guard_f rfl ?_ | refine at_guard_u rfl ?_ | (refine at_lss rfl rfl (fun _ => ?_) (fun _ => ?_) <;> try (exfalso; omega)) | (refine at_leq rfl rfl (fun _ => ?_) (fun _ => ?_) <;> try (exfalso; omega)) | (refine at_gtr rfl rfl (fun _ => ?_) (fun _ => ?_) <;> try (exfalso; omega)) | (refine at_geq rfl rfl (fun _ => ?_) (fun _ => ?_) <;> try (exfalso; omega)) | (refine at_eql rfl rfl (fun _ => ?_) (fun _ => ?_) <;> try (exfalso; omega)) | (refine at_neq rfl rfl (fun _ => ?_) (fun _ => ?_) <;> try (exfalso; omega)) | refine at_skip ?_ | refine at_true rfl ?_ | refine at_false rfl ?_ | refine at_block ?_ | refine at_blk ?_ | refine at_blk_exit ?_ | refine at_blk_ret ?_ | refine at_c_ret ?_ | refine at_o_ret ?_ | refine at_c_exit ?_ | refine at_blk_pass rfl ?_ | refine at_exit ?_ | refine at_ret ?_ | refine at_kp (by simp only [keep_cons, keep_nil, keepC_some, keepC_none, get_same, get_ne, get_nil, arg_cons, arg_nil, Nat.reduceBEq, Nat.reduceAdd] <;> rfl) ?_ | refine at_inc rfl (by omega) ?_ | refine at_add rfl rfl (by omega) ?_ | refine at_sub rfl rfl (by omega) ?_ | refine at_pick_t rfl rfl ?_ | refine at_pick_f rfl rfl ?_ | refine at_not rfl ?_ | (refine at_iaddr rfl rfl (by assumption) (by omega) (fun _ _ hp => ?_); cases hp) | (refine at_iaddr_int rfl rfl (by assumption) (by omega) (fun _ _ hp => ?_); cases hp) | refine at_elemI rfl (by assumption) (by first | assumption | exact Sub.refl _ | exact St.sub (by assumption)) (by omega) (fun _ => ?_) | refine at_elemB rfl (by assumption) (by first | assumption | exact Sub.refl _ | exact St.sub (by assumption)) (by omega) (fun _ => ?_) (fun _ => ?_) | refine at_elemL rfl (by assumption) (by first | assumption | exact Sub.refl _ | exact St.sub (by assumption)) (by omega) (fun _ _ _ _ => ?_) | refine at_elemS rfl (by assumption) (by first | assumption | exact Sub.refl _ | exact St.sub (by assumption)) (by omega) ?_ | refine at_elemV rfl (by assumption) (by infer_instance) (by first | assumption | exact Sub.refl _ | exact St.sub (by assumption)) (by omega) ?_ | refine at_eqlV rfl rfl (fun _ => ?_) (fun _ => ?_) | refine at_faddr rfl ?_ | refine at_nilc rfl ?_ | refine at_ld rfl (by assumption) rfl rfl ?_ | refine at_opsA ?_ | refine at_apart rfl ?_ | refine at_ap_ret ?_ | refine at_end ?_ | refine at_free rfl rfl ?_
          refine ⟨by simp, _, rfl, ?_⟩
          rfl
    · intro _ _
      obtain ⟨a, b, e1, e2, h3, h4, h5, h6⟩ := badL_some hkj
      simp only [Nat.zero_add] at e1 e2
      subst e1; subst e2
      unfold badV
      repeat' first | refine at_seq ?_ | refine at_ops ?_ | refine at_nil ?_ | refine at_mv rfl ?_ | refine at_lenL rfl ?_ | refine at_guard_t rfl ?_ | refine at_guard_f rfl ?_ | refine at_guard_u rfl ?_ | (refine at_lss rfl rfl (fun _ => ?_) (fun _ => ?_) <;> try (exfalso; omega)) | (refine at_leq rfl rfl (fun _ => ?_) (fun _ => ?_) <;> try (exfalso; omega)) | (refine at_gtr rfl rfl (fun _ => ?_) (fun _ => ?_) <;> try (exfalso; omega)) | (refine at_geq rfl rfl (fun _ => ?_) (fun _ => ?_) <;> try (exfalso; omega)) | (refine at_eql rfl rfl (fun _ => ?_) (fun _ => ?_) <;> try (exfalso; omega)) | (refine at_neq rfl rfl (fun _ => ?_) (fun _ => ?_) <;> try (exfalso; omega)) | refine at_skip ?_ | refine at_true rfl ?_ | refine at_false rfl ?_ | refine at_block ?_ | refine at_blk ?_ | refine at_blk_exit ?_ | refine at_blk_ret ?_ | refine at_c_ret ?_ | refine at_o_ret ?_ | refine at_c_exit ?_ | refine at_blk_pass rfl ?_ | refine at_exit ?_ | refine at_ret ?_ | refine at_kp (by simp only [keep_cons, keep_nil, keepC_some, keepC_none, get_same, get_ne, get_nil, arg_cons, arg_nil, Nat.reduceBEq, Nat.reduceAdd] <;> rfl) ?_ | refine at_inc rfl (by omega) ?_ | refine at_add rfl rfl (by omega) ?_ | refine at_sub rfl rfl (by omega) ?_ | refine at_pick_t rfl rfl ?_ | refine at_pick_f rfl rfl ?_ | refine at_not rfl ?_ | (refine at_iaddr rfl rfl (by assumption) (by omega) (fun _ _ hp => ?_); cases hp) | (refine at_iaddr_int rfl rfl (by assumption) (by omega) (fun _ _ hp => ?_); cases hp) | refine at_elemI rfl (by assumption) (by first | assumption | exact Sub.refl _ | exact St.sub (by assumption)) (by omega) (fun _ => ?_) | refine at_elemB rfl (by assumption) (by first | assumption | exact Sub.refl _ | exact St.sub (by assumption)) (by omega) (fun _ => ?_) (fun _ => ?_) | refine at_elemL rfl (by assumption) (by first | assumption | exact Sub.refl _ | exact St.sub (by assumption)) (by omega) (fun _ _ _ _ => ?_) | refine at_elemS rfl (by assumption) (by first | assumption | exact Sub.refl _ | exact St.sub (by assumption)) (by omega) ?_ | refine at_elemV rfl (by assumption) (by infer_instance) (by first | assumption | exact Sub.refl _ | exact St.sub (by assumption)) (by omega) ?_ | refine at_eqlV rfl rfl (fun _ => ?_) (fun _ => ?_) | refine at_faddr rfl ?_ | refine at_nilc rfl ?_ | refine at_ld rfl (by assumption) rfl rfl ?_ | refine at_opsA ?_ | refine at_apart rfl ?_ | refine at_ap_ret ?_ | refine at_end ?_ | refine at_free rfl rfl ?_
      refine at_cl rfl rfl rfl rfl (rFit_runs hrf hri hs (by assumption) (by assumption) (by have := hl2 _ (List.getElem_mem h4); omega) (by have := hl2 _ (List.getElem_mem h5); omega) (fun _ _ => ?_))
      rw [h6]
      repeat' first | refine at_seq ?_ | refine at_ops ?_ | refine at_nil ?_ | refine at_mv rfl ?_ | refine at_lenL rfl ?_ | refine at_guard_t rfl ?_ | refine at_guard_f rfl ?_ | refine at_guard_u rfl ?_ | (refine at_lss rfl rfl (fun _ => ?_) (fun _ => ?_) <;> try (exfalso; omega)) | (refine at_leq rfl rfl (fun _ => ?_) (fun _ => ?_) <;> try (exfalso; omega)) | (refine at_gtr rfl rfl (fun _ => ?_) (fun _ => ?_) <;> try (exfalso; omega)) | (refine at_geq rfl rfl (fun _ => ?_) (fun _ => ?_) <;> try (exfalso; omega)) | (refine at_eql rfl rfl (fun _ => ?_) (fun _ => ?_) <;> try (exfalso; omega)) | (refine at_neq rfl rfl (fun _ => ?_) (fun _ => ?_) <;> try (exfalso; omega)) | refine at_skip ?_ | refine at_true rfl ?_ | refine at_false rfl ?_ | refine at_block ?_ | refine at_blk ?_ | refine at_blk_exit ?_ | refine at_blk_ret ?_ | refine at_c_ret ?_ | refine at_o_ret ?_ | refine at_c_exit ?_ | refine at_blk_pass rfl ?_ | refine at_exit ?_ | refine at_ret ?_ | refine at_kp (by simp only [keep_cons, keep_nil, keepC_some, keepC_none, get_same, get_ne, get_nil, arg_cons, arg_nil, Nat.reduceBEq, Nat.reduceAdd] <;> rfl) ?_ | refine at_inc rfl (by omega) ?_ | refine at_add rfl rfl (by omega) ?_ | refine at_sub rfl rfl (by omega) ?_ | refine at_pick_t rfl rfl ?_ | refine at_pick_f rfl rfl ?_ | refine at_not rfl ?_ | (refine at_iaddr rfl rfl (by assumption) (by omega) (fun _ _ hp => ?_); cases hp) | (refine at_iaddr_int rfl rfl (by assumption) (by omega) (fun _ _ hp => ?_); cases hp) | refine at_elemI rfl (by assumption) (by first | assumption | exact Sub.refl _ | exact St.sub (by assumption)) (by omega) (fun _ => ?_) | refine at_elemB rfl (by assumption) (by first | assumption | exact Sub.refl _ | exact St.sub (by assumption)) (by omega) (fun _ => ?_) (fun _ => ?_) | refine at_elemL rfl (by assumption) (by first | assumption | exact Sub.refl _ | exact St.sub (by assumption)) (by omega) (fun _ _ _ _ => ?_) | refine at_elemS rfl (by assumption) (by first | assumption | exact Sub.refl _ | exact St.sub (by assumption)) (by omega) ?_ | refine at_elemV rfl (by assumption) (by infer_instance) (by first | assumption | exact Sub.refl _ | exact St.sub (by assumption)) (by omega) ?_ | refine at_eqlV rfl rfl (fun _ => ?_) (fun _ => ?_) | refine at_faddr rfl ?_ | refine at_nilc rfl ?_ | refine at_ld rfl (by assumption) rfl rfl ?_ | refine at_opsA ?_ | refine at_apart rfl ?_ | refine at_ap_ret ?_ | refine at_end ?_ | refine at_free rfl rfl ?_
      refine at_cl rfl rfl rfl rfl (runs_oracle hw (fun _ => rfl) (fun _ _ => ?_))
      repeat' first | refine at_seq ?_ | refine at_ops ?_ | refine at_nil ?_ | refine at_mv rfl ?_ | refine at_lenL rfl ?_ | refine at_guard_t rfl ?_ | refine at_guard_f rfl ?_ | refine at_guard_u rfl ?_ | (refine at_lss rfl rfl (fun _ => ?_) (fun _ => ?_) <;> try (exfalso; omega)) | (refine at_leq rfl rfl (fun _ => ?_) (fun _ => ?_) <;> try (exfalso; omega)) | (refine at_gtr rfl rfl (fun _ => ?_) (fun _ => ?_) <;> try (exfalso; omega)) | (refine at_geq rfl rfl (fun _ => ?_) (fun _ => ?_) <;> try (exfalso; omega)) | (refine at_eql rfl rfl (fun _ => ?_) (fun _ => ?_) <;> try (exfalso; omega)) | (refine at_neq rfl rfl (fun _ => ?_) (fun _ => ?_) <;> try (exfalso; omega)) | refine at_skip ?_ | refine at_true rfl ?_ | refine at_false rfl ?_ | refine at_block ?_ | refine at_blk ?_ | refine at_blk_exit ?_ | refine at_blk_ret ?_ | refine at_c_ret ?_ | refine at_o_ret ?_ | refine at_c_exit ?_ | refine at_blk_pass rfl ?_ | refine at_exit ?_ | refine at_ret ?_ | refine at_kp (by simp only [keep_cons, keep_nil, keepC_some, keepC_none, get_same, get_ne, get_nil, arg_cons, arg_nil, Nat.reduceBEq, Nat.reduceAdd] <;> rfl) ?_ | refine at_inc rfl (by omega) ?_ | refine at_add rfl rfl (by omega) ?_ | refine at_sub rfl rfl (by omega) ?_ | refine at_pick_t rfl rfl ?_ | refine at_pick_f rfl rfl ?_ | refine at_not rfl ?_ | (refine at_iaddr rfl rfl (by assumption) (by omega) (fun _ _ hp => ?_); cases hp) | (refine at_iaddr_int rfl rfl (by assumption) (by omega) (fun _ _ hp => ?_); cases hp) | refine at_elemI rfl (by assumption) (by first | assumption | exact Sub.refl _ | exact St.sub (by assumption)) (by omega) (fun _ => ?_) | refine at_elemB rfl (by assumption) (by first | assumption | exact Sub.refl _ | exact St.sub (by assumption)) (by omega) (fun _ => ?_) (fun _ => ?_) | refine at_elemL rfl (by assumption) (by first | assumption | exact Sub.refl _ | exact St.sub (by assumption)) (by omega) (fun _ _ _ _ => ?_) | refine at_elemS rfl (by assumption) (by first | assumption | exact Sub.refl _ | exact St.sub (by assumption)) (by omega) ?_ | refine at_elemV rfl (by assumption) (by infer_instance) (by first | assumption | exact Sub.refl _ | exact St.sub (by assumption)) (by omega) ?_ | refine at_eqlV rfl rfl (fun _ => ?_) (fun _ => ?_) | refine at_faddr rfl ?_ | refine at_nilc rfl ?_ | refine at_ld rfl (by assumption) rfl rfl ?_ | refine at_opsA ?_ | refine at_apart rfl ?_ | refine at_ap_ret ?_ | refine at_end ?_ | refine at_free rfl rfl ?_
      refine ⟨by simp, _, rfl, ?_⟩
      rfl
  · intro _ _
    repeat' first | refine at_seq ?_ | refine at_ops ?_ | refine at_nil ?_ | refine at_mv rfl ?_ | refine at_lenL rfl ?_ | refine at_guard_t rfl ?_ | refine at_guard_f rfl ?_ | refine at_guard_u rfl ?_ | (refine at_lss rfl rfl (fun _ => ?_) (fun _ => ?_) <;> try (exfalso; omega)) | (refine at_leq rfl rfl (fun _ => ?_) (fun _ => ?_) <;> try (exfalso; omega)) | (refine at_gtr rfl rfl (fun _ => ?_) (fun _ => ?_) <;> try (exfalso; omega)) | (refine at_geq rfl rfl (fun _ => ?_) (fun _ => ?_) <;> try (exfalso; omega)) | (refine at_eql rfl rfl (fun _ => ?_) (fun _ => ?_) <;> try (exfalso; omega)) | (refine at_neq rfl rfl (fun _ => ?_) (fun _ => ?_) <;> try (exfalso; omega)) | refine at_skip ?_ | refine at_true rfl ?_ | refine at_false rfl ?_ | refine at_block ?_ | refine at_blk ?_ | refine at_blk_exit ?_ | refine at_blk_ret ?_ | refine at_c_ret ?_ | refine at_o_ret ?_ | refine at_c_exit ?_ | refine at_blk_pass rfl ?_ | refine at_exit ?_ | refine at_ret ?_ | refine at_kp (by simp only [keep_cons, keep_nil, keepC_some, keepC_none, get_same, get_ne, get_nil, arg_cons, arg_nil, Nat.reduceBEq, Nat.reduceAdd] <;> rfl) ?_ | refine at_inc rfl (by omega) ?_ | refine at_add rfl rfl (by omega) ?_ | refine at_sub rfl rfl (by omega) ?_ | refine at_pick_t rfl rfl ?_ | refine at_pick_f rfl rfl ?_ | refine at_not rfl ?_ | (refine at_iaddr rfl rfl (by assumption) (by omega) (fun _ _ hp => ?_); cases hp) | (refine at_iaddr_int rfl rfl (by assumption) (by omega) (fun _ _ hp => ?_); cases hp) | refine at_elemI rfl (by assumption) (by first | assumption | exact Sub.refl _ | exact St.sub (by assumption)) (by omega) (fun _ => ?_) | refine at_elemB rfl (by assumption) (by first | assumption | exact Sub.refl _ | exact St.sub (by assumption)) (by omega) (fun _ => ?_) (fun _ => ?_) | refine at_elemL rfl (by assumption) (by first | assumption | exact Sub.refl _ | exact St.sub (by assumption)) (by omega) (fun _ _ _ _ => ?_) | refine at_elemS rfl (by assumption) (by first | assumption | exact Sub.refl _ | exact St.sub (by assumption)) (by omega) ?_ | refine at_elemV rfl (by assumption) (by infer_instance) (by first | assumption | exact Sub.refl _ | exact St.sub (by assumption)) (by omega) ?_ | refine at_eqlV rfl rfl (fun _ => ?_) (fun _ => ?_) | refine at_faddr rfl ?_ | refine at_nilc rfl ?_ | refine at_ld rfl (by assumption) rfl rfl ?_ | refine at_opsA ?_ | refine at_apart rfl ?_ | refine at_ap_ret ?_ | refine at_end ?_ | refine at_free rfl rfl ?_
    refine at_cl rfl rfl rfl rfl (runs_oracle hw (fun _ => rfl) (fun _ _ => ?_))
    repeat' first | refine at_seq ?_ | refine at_ops ?_ | refine at_nil ?_ | refine at_mv rfl ?_ | refine at_lenL rfl ?_ | refine at_guard_t rfl ?_ | refine at_guard_f rfl ?_ | refine at_guard_u rfl ?_ | (refine at_lss rfl rfl (fun _ => ?_) (fun _ => ?_) <;> try (exfalso; omega)) | (refine at_leq rfl rfl (fun _ => ?_) (fun _ => ?_) <;> try (exfalso; omega)) | (refine at_gtr rfl rfl (fun _ => ?_) (fun _ => ?_) <;> try (exfalso; omega)) | (refine at_geq rfl rfl (fun _ => ?_) (fun _ => ?_) <;> try (exfalso; omega)) | (refine at_eql rfl rfl (fun _ => ?_) (fun _ => ?_) <;> try (exfalso; omega)) | (refine at_neq rfl rfl (fun _ => ?_) (fun _ => ?_) <;> try (exfalso; omega)) | refine at_skip ?_ | refine at_true rfl ?_ | refine at_false rfl ?_ | refine at_block ?_ | refine at_blk ?_ | refine at_blk_exit ?_ | refine at_blk_ret ?_ | refine at_c_ret ?_ | refine at_o_ret ?_ | refine at_c_exit ?_ | refine at_blk_pass rfl ?_ | refine at_exit ?_ | refine at_ret ?_ | refine at_kp (by simp only [keep_cons, keep_nil, keepC_some, keepC_none, get_same, get_ne, get_nil, arg_cons, arg_nil, Nat.reduceBEq, Nat.reduceAdd] <;> rfl) ?_ | refine at_inc rfl (by omega) ?_ | refine at_add rfl rfl (by omega) ?_ | refine at_sub rfl rfl (by omega) ?_ | refine at_pick_t rfl rfl ?_ | refine at_pick_f rfl rfl ?_ | refine at_not rfl ?_ | (refine at_iaddr rfl rfl (by assumption) (by omega) (fun _ _ hp => ?_); cases hp) | (refine at_iaddr_int rfl rfl (by assumption) (by omega) (fun _ _ hp => ?_); cases hp) | refine at_elemI rfl (by assumption) (by first | assumption | exact Sub.refl _ | exact St.sub (by assumption)) (by omega) (fun _ => ?_) | refine at_elemB rfl (by assumption) (by first | assumption | exact Sub.refl _ | exact St.sub (by assumption)) (by omega) (fun _ => ?_) (fun _ => ?_) | refine at_elemL rfl (by assumption) (by first | assumption | exact Sub.refl _ | exact St.sub (by assumption)) (by omega) (fun _ _ _ _ => ?_) | refine at_elemS rfl (by assumption) (by first | assumption | exact Sub.refl _ | exact St.sub (by assumption)) (by omega) ?_ | refine at_elemV rfl (by assumption) (by infer_instance) (by first | assumption | exact Sub.refl _ | exact St.sub (by assumption)) (by omega) ?_ | refine at_eqlV rfl rfl (fun _ => ?_) (fun _ => ?_) | refine at_faddr rfl ?_ | refine at_nilc rfl ?_ | refine at_ld rfl (by assumption) rfl rfl ?_ | refine at_opsA ?_ | refine at_apart rfl ?_ | refine at_ap_ret ?_ | refine at_end ?_ | refine at_free rfl rfl ?_
    refine ⟨by simp, _, rfl, ?_⟩
    rfl
end
end Go.AM.G.Pre
