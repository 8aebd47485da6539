/- Functions with their shapes and what they give, printed by a program. -/
import Derived.Test.YtbkfoogenhinfaaJb
import Derived.Test.YtbkfoogenhinfaaProg
set_option maxRecDepth 100000
set_option linter.unusedVariables false
namespace Go.Ideal.Seat
open Go.Proofs
noncomputable section

def opn (f : Nat) : Bool := [].contains f
def A_audit_Parts : AFn := ⟨1, [.tmp 2],
  .seq (.reg [⟨0, none, (some 2), .mov (.c .nils)⟩] [0])
  (.seq (.reg [⟨0, none, (some 3), .mov (.c .nils)⟩] [0, 3])
  (.seq (.seq (.reg [⟨0, none, (some 7), .mov (.t 0)⟩,
       ⟨1, none, (some 8), .len false (.t 7)⟩,
       ⟨2, none, (some 9), .mov (.c (.int .i64 0))⟩] [3, 7, 8, 9])
   (.block 0 (.loop [(3, (.own (.pair (.int .i64) (.pair (.int .i64) (.int .i64))))), (7, .keep), (8, .keep), (9, (.val false false ⟨false, (.int .i64)⟩))] [(.exit 0, [(3, (.own (.pair (.int .i64) (.pair (.int .i64) (.int .i64))))), (7, .keep), (8, .keep), (9, (.val false false ⟨false, (.int .i64)⟩)), (10, (.val false false ⟨false, .bool⟩))])] (.seq (.reg [⟨0, none, (some 10), .bin .lss (.t 9) (.t 8)⟩] [3, 7, 8, 9, 10])
     (.seq (.cond (.t 10)
       (.skip)
       (.exit 0))
     (.seq (.block 1 (.seq (.reg [⟨0, none, (some 11), .iadr 3 (.t 7) (.t 9)⟩,
           ⟨1, none, (some 12), .load (some 3) (.t 11)⟩,
           ⟨2, none, (some 5), .alloc true 3 [[(.int .i64 0), (.int .i64 0), (.int .u8 0)]]⟩,
           ⟨3, none, none, .store 3 (.t 5) (.t 12)⟩] [3, 5, 7, 8, 9])
       (.seq (.seq (.reg [⟨0, none, (some 13), .mov (.t 3)⟩,
            ⟨1, none, (some 14), .len false (.t 13)⟩,
            ⟨2, none, (some 6), .mov (.t 14)⟩] [3, 5, 6, 7, 8, 9])
        (.seq (.join [] [(.normal, [(3, .keep), (5, .keep), (6, .keep), (7, .keep), (8, .keep), (9, .keep), (38, (.val false false ⟨false, .bool⟩))])] (.drw [⟨0, none, (some 15), .mov (.t 6)⟩,
             ⟨1, none, (some 16), .bin .gtr (.t 15) (.c (.int .i64 0))⟩,
             ⟨2, none, (some 17), .mov (.t 16)⟩,
             ⟨3, (some (17, true)), (some 18), .mov (.t 3)⟩,
             ⟨4, (some (17, true)), (some 19), .mov (.t 6)⟩,
             ⟨5, (some (17, true)), (some 20), .bin .sub (.t 19) (.c (.int .i64 1))⟩,
             ⟨6, (some (17, true)), (some 21), .iadr 3 (.t 18) (.t 20)⟩,
             ⟨7, (some (17, true)), (some 22), .fadr 0 (.t 21)⟩,
             ⟨8, (some (17, true)), (some 23), .load none (.t 22)⟩,
             ⟨9, (some (17, true)), (some 24), .fadr 0 (.t 5)⟩,
             ⟨10, (some (17, true)), (some 25), .load none (.t 24)⟩,
             ⟨11, (some (17, true)), (some 26), .bin .eql (.t 23) (.t 25)⟩,
             ⟨12, none, (some 27), .pick (.t 17) (.t 26) (.c (.bool false))⟩,
             ⟨13, none, (some 28), .mov (.t 27)⟩,
             ⟨14, (some (28, true)), (some 29), .mov (.t 3)⟩,
             ⟨15, (some (28, true)), (some 30), .mov (.t 6)⟩,
             ⟨16, (some (28, true)), (some 31), .bin .sub (.t 30) (.c (.int .i64 1))⟩,
             ⟨17, (some (28, true)), (some 32), .iadr 3 (.t 29) (.t 31)⟩,
             ⟨18, (some (28, true)), (some 33), .fadr 1 (.t 32)⟩,
             ⟨19, (some (28, true)), (some 34), .load none (.t 33)⟩,
             ⟨20, (some (28, true)), (some 35), .fadr 1 (.t 5)⟩,
             ⟨21, (some (28, true)), (some 36), .load none (.t 35)⟩,
             ⟨22, (some (28, true)), (some 37), .bin .eql (.t 34) (.t 36)⟩,
             ⟨23, none, (some 38), .pick (.t 28) (.t 37) (.c (.bool false))⟩] [] [3, 5, 6, 7, 8, 9, 38]))
        (.cond (.t 38)
         (.seq (.reg [⟨0, none, (some 39), .mov (.t 3)⟩,
              ⟨1, none, (some 40), .mov (.t 6)⟩,
              ⟨2, none, (some 41), .bin .sub (.t 40) (.c (.int .i64 1))⟩,
              ⟨3, none, (some 42), .iadr 3 (.t 39) (.t 41)⟩,
              ⟨4, none, (some 43), .fadr 2 (.t 42)⟩,
              ⟨5, none, (some 44), .load none (.t 43)⟩,
              ⟨6, none, (some 45), .bin .add (.t 44) (.c (.int .i64 1))⟩,
              ⟨7, none, (some 46), .iadr 3 (.t 39) (.t 41)⟩,
              ⟨8, none, (some 47), .fadr 2 (.t 46)⟩,
              ⟨9, none, none, .store 1 (.t 47) (.t 45)⟩] [3, 7, 8, 9])
          (.exit 1))
         (.skip))))
       (.reg [⟨0, none, (some 48), .mov (.t 3)⟩,
          ⟨1, none, (some 49), .fadr 0 (.t 5)⟩,
          ⟨2, none, (some 50), .load none (.t 49)⟩,
          ⟨3, none, (some 51), .fadr 1 (.t 5)⟩,
          ⟨4, none, (some 52), .load none (.t 51)⟩,
          ⟨5, none, (some 53), .build [(.int .i64 0), (.int .i64 0), (.int .i64 0)] [(0, 1, (.t 50)), (1, 1, (.t 52)), (2, 1, (.c (.int .i64 1)))]⟩,
          ⟨6, none, (some 54), .bsl false 3 [(.int .i64 0), (.int .i64 0), (.int .i64 0)] 1 [(0, (.t 53))]⟩,
          ⟨7, none, (some 55), .app 3 24 (.t 48) (.t 54)⟩,
          ⟨8, none, (some 3), .mov (.t 55)⟩] [3, 7, 8, 9]))))
     (.reg [⟨0, none, (some 56), .bin .add (.t 9) (.c (.int .i64 1))⟩,
        ⟨1, none, (some 9), .mov (.t 56)⟩] [3, 7, 8, 9])))))))
  (.seq (.reg [⟨0, none, (some 57), .mov (.t 3)⟩,
      ⟨1, none, (some 2), .mov (.t 57)⟩] [2])
  (.ret)))),
  [(54, (.pair (.int .i64) (.pair (.int .i64) (.int .i64)))), (55, (.pair (.int .i64) (.pair (.int .i64) (.int .i64))))]⟩

def F_audit_Parts (x : List ((Int) × (Int) × Int)) : Option (List ((Int) × (Int) × Int)) :=
  ((iterL (S := (List ((Int) × (Int) × Int)) × Int) (X := (List ((Int) × (Int) × Int)) × (Int) × Bool) (fun s51 => (bif (decide (s51.2 < (((x.length) : Nat) : Int))) then (bif decide (0 ≤ s51.2) then ((x[(s51.2).toNat]?).bind fun e52 => ((bif ((decide ((((s51.1.length) : Nat) : Int) > 0)) == true) then (bif decide (0 ≤ (IntKind.wrap .i64 ((((s51.1.length) : Nat) : Int) - 1))) then (bif decide (((IntKind.wrap .i64 ((((s51.1.length) : Nat) : Int) - 1))).toNat < s51.1.length) then ((s51.1[((IntKind.wrap .i64 ((((s51.1.length) : Nat) : Int) - 1))).toNat]?).bind fun e53 => (bif ((e53.1 == e52.1) == true) then (bif decide (0 ≤ (IntKind.wrap .i64 ((((s51.1.length) : Nat) : Int) - 1))) then (bif decide (((IntKind.wrap .i64 ((((s51.1.length) : Nat) : Int) - 1))).toNat < s51.1.length) then ((s51.1[((IntKind.wrap .i64 ((((s51.1.length) : Nat) : Int) - 1))).toNat]?).bind fun e54 => (some (e54.2.1 == e52.2.1))) else none) else none) else (some false))) else none) else none) else (some false)).bind fun v55 => (bif v55 then (bif decide (0 ≤ (IntKind.wrap .i64 ((((s51.1.length) : Nat) : Int) - 1))) then (bif decide (((IntKind.wrap .i64 ((((s51.1.length) : Nat) : Int) - 1))).toNat < s51.1.length) then ((s51.1[((IntKind.wrap .i64 ((((s51.1.length) : Nat) : Int) - 1))).toNat]?).bind fun e56 => (bif decide (0 ≤ (IntKind.wrap .i64 ((((s51.1.length) : Nat) : Int) - 1))) then (bif decide (((IntKind.wrap .i64 ((((s51.1.length) : Nat) : Int) - 1))).toNat < s51.1.length) then ((s51.1[((IntKind.wrap .i64 ((((s51.1.length) : Nat) : Int) - 1))).toNat]?).bind fun e57 => (some (Sum.inl ((s51.1.set ((IntKind.wrap .i64 ((((s51.1.length) : Nat) : Int) - 1))).toNat (e57.1, (e57.2.1, (IntKind.wrap .i64 (e56.2.2 + 1))))), (IntKind.wrap .i64 (s51.2 + 1)))))) else none) else none)) else none) else none) else (bif decide ((s51.1.length + ([(e52.1, (e52.2.1, 1))] : List ((Int) × (Int) × Int)).length) * (24 + 1) ≤ most) then (some (Sum.inl ((s51.1 ++ ([(e52.1, (e52.2.1, 1))] : List ((Int) × (Int) × Int))), (IntKind.wrap .i64 (s51.2 + 1))))) else none)))) else none) else (some (Sum.inr (s51.1, s51.2, (decide (s51.2 < (((x.length) : Nat) : Int)))))))) (([] : List ((Int) × (Int) × Int)), 0)).bind fun v58 => (some v58.1))

def A_audit_Of : AFn := ⟨3, [.tmp 6],
  .seq (.reg [⟨0, none, (some 6), .mov (.c .nils)⟩] [0, 1, 2])
  (.seq (.reg [⟨0, none, (some 7), .mov (.c .nils)⟩] [0, 1, 2, 7])
  (.seq (.seq (.reg [⟨0, none, (some 10), .mov (.t 0)⟩,
       ⟨1, none, (some 11), .len false (.t 10)⟩,
       ⟨2, none, (some 12), .mov (.c (.int .i64 0))⟩] [1, 2, 7, 10, 11, 12])
   (.block 0 (.loop [(1, .keep), (2, .keep), (7, (.own (.int .u8))), (10, .keep), (11, .keep), (12, (.val false false ⟨false, (.int .i64)⟩))] [(.exit 0, [(1, .keep), (2, .keep), (7, (.own (.int .u8))), (10, .keep), (11, .keep), (12, (.val false false ⟨false, (.int .i64)⟩)), (13, (.val false false ⟨false, .bool⟩))])] (.seq (.reg [⟨0, none, (some 13), .bin .lss (.t 12) (.t 11)⟩] [1, 2, 7, 10, 11, 12, 13])
     (.seq (.cond (.t 13)
       (.skip)
       (.exit 0))
     (.seq (.block 1 (.seq (.reg [⟨0, none, (some 14), .iadr 3 (.t 10) (.t 12)⟩,
           ⟨1, none, (some 15), .load (some 3) (.t 14)⟩,
           ⟨2, none, (some 9), .alloc true 3 [[(.int .i64 0), (.int .i64 0), .nils]]⟩,
           ⟨3, none, none, .store 3 (.t 9) (.t 15)⟩] [1, 2, 7, 9, 10, 11, 12])
       (.seq (.join [] [(.normal, [(1, .keep), (2, .keep), (7, .keep), (9, .keep), (10, .keep), (11, .keep), (12, .keep), (25, (.val false false ⟨false, .bool⟩))])] (.reg [⟨0, none, (some 16), .fadr 0 (.t 9)⟩,
            ⟨1, none, (some 17), .load none (.t 16)⟩,
            ⟨2, none, (some 18), .mov (.t 1)⟩,
            ⟨3, none, (some 19), .bin .eql (.t 17) (.t 18)⟩,
            ⟨4, none, (some 20), .mov (.t 19)⟩,
            ⟨5, (some (20, true)), (some 21), .fadr 1 (.t 9)⟩,
            ⟨6, (some (20, true)), (some 22), .load none (.t 21)⟩,
            ⟨7, (some (20, true)), (some 23), .mov (.t 2)⟩,
            ⟨8, (some (20, true)), (some 24), .bin .eql (.t 22) (.t 23)⟩,
            ⟨9, none, (some 25), .pick (.t 20) (.t 24) (.c (.bool false))⟩] [1, 2, 7, 9, 10, 11, 12, 25]))
       (.cond (.t 25)
        (.reg [⟨0, none, (some 26), .mov (.t 7)⟩,
            ⟨1, none, (some 27), .fadr 2 (.t 9)⟩,
            ⟨2, none, (some 28), .load none (.t 27)⟩,
            ⟨3, none, (some 29), .app 1 1 (.t 26) (.t 28)⟩,
            ⟨4, none, (some 7), .mov (.t 29)⟩] [1, 2, 7, 10, 11, 12])
        (.skip)))))
     (.reg [⟨0, none, (some 30), .bin .add (.t 12) (.c (.int .i64 1))⟩,
        ⟨1, none, (some 12), .mov (.t 30)⟩] [1, 2, 7, 10, 11, 12])))))))
  (.seq (.reg [⟨0, none, (some 31), .mov (.t 7)⟩,
      ⟨1, none, (some 6), .mov (.t 31)⟩] [6])
  (.ret)))),
  [(29, (.int .u8))]⟩

def F_audit_Of (x : (List ((Int) × (Int) × List (Int))) × (Int) × Int) : Option (List (Int)) :=
  ((iterL (S := (List (Int)) × Int) (X := (List (Int)) × (Int) × Bool) (fun s24 => (bif (decide (s24.2 < (((x.1.length) : Nat) : Int))) then (bif decide (0 ≤ s24.2) then ((x.1[(s24.2).toNat]?).bind fun e25 => ((bif ((e25.1 == x.2.1) == true) then (some (e25.2.1 == x.2.2)) else (some false)).bind fun v26 => (bif v26 then (bif decide ((s24.1.length + e25.2.2.length) * (1 + 1) ≤ most) then (some (Sum.inl ((s24.1 ++ e25.2.2), (IntKind.wrap .i64 (s24.2 + 1))))) else none) else (some (Sum.inl (s24.1, (IntKind.wrap .i64 (s24.2 + 1)))))))) else none) else (some (Sum.inr (s24.1, s24.2, (decide (s24.2 < (((x.1.length) : Nat) : Int)))))))) (([] : List (Int)), 0)).bind fun v27 => (some v27.1))

def A_audit_Check : AFn := ⟨2, [.tmp 4, .tmp 5],
  .seq (.reg [⟨0, none, (some 4), .mov (.c (.int .i64 0))⟩,
      ⟨1, none, (some 5), .mov (.c (.int .i64 0))⟩] [0, 1])
  (.seq (.reg [⟨0, none, (some 6), .mov (.c (.int .i64 0))⟩] [0, 1, 6])
  (.seq (.reg [⟨0, none, (some 7), .alloc true 3 [[(.int .i64 0), (.int .i64 0), (.int .u8 0)]]⟩] [0, 1, 6, 7])
  (.seq (.seq (.reg [⟨0, none, (some 12), .mov (.t 0)⟩,
       ⟨1, none, (some 13), .call 22 [(.t 12)]⟩,
       ⟨2, none, (some 14), .len false (.t 13)⟩,
       ⟨3, none, (some 15), .mov (.c (.int .i64 0))⟩] [0, 1, 6, 7, 13, 14, 15])
   (.block 0 (.loop [(0, .keep), (1, .keep), (6, (.val false false ⟨false, (.int .i64)⟩)), (7, (.box [.ty false false (.int .i64), .ty false false (.int .i64), .ty false false (.int .u8)])), (13, .keep), (14, .keep), (15, (.val false false ⟨false, (.int .i64)⟩))] [(.ret, [(4, (.val false false ⟨false, (.int .i64)⟩)), (5, (.val false false ⟨false, (.int .i64)⟩))]), (.exit 0, [(0, .keep), (1, .keep), (6, (.val false false ⟨false, (.int .i64)⟩)), (7, (.box [.ty false false (.int .i64), .ty false false (.int .i64), .ty false false (.int .u8)])), (13, .keep), (14, .keep), (15, (.val false false ⟨false, (.int .i64)⟩)), (16, (.val false false ⟨false, .bool⟩))])] (.seq (.reg [⟨0, none, (some 16), .bin .lss (.t 15) (.t 14)⟩] [0, 1, 6, 7, 13, 14, 15, 16])
     (.seq (.cond (.t 16)
       (.skip)
       (.exit 0))
     (.seq (.block 1 (.seq (.reg [⟨0, none, (some 17), .iadr 3 (.t 13) (.t 15)⟩,
           ⟨1, none, (some 18), .load (some 3) (.t 17)⟩,
           ⟨2, none, (some 9), .alloc true 3 [[(.int .i64 0), (.int .i64 0), (.int .i64 0)]]⟩,
           ⟨3, none, none, .store 3 (.t 9) (.t 18)⟩] [0, 1, 6, 7, 9, 13, 14, 15])
       (.seq (.block 2 (.seq (.join [] [(.normal, [(0, .keep), (1, .keep), (6, .keep), (7, .keep), (9, .keep), (13, .keep), (14, .keep), (15, .keep), (19, (.val false false ⟨false, .bool⟩))])] (.reg [⟨0, none, (some 20), .mov (.t 6)⟩,
              ⟨1, none, (some 21), .bin .gtr (.t 20) (.c (.int .i64 0))⟩,
              ⟨2, none, (some 22), .mov (.t 21)⟩,
              ⟨3, (some (22, true)), (some 23), .fadr 0 (.t 9)⟩,
              ⟨4, (some (22, true)), (some 24), .load none (.t 23)⟩,
              ⟨5, (some (22, true)), (some 25), .fadr 0 (.t 7)⟩,
              ⟨6, (some (22, true)), (some 26), .load none (.t 25)⟩,
              ⟨7, (some (22, true)), (some 27), .bin .lss (.t 24) (.t 26)⟩,
              ⟨8, none, (some 28), .pick (.t 22) (.t 27) (.c (.bool false))⟩,
              ⟨9, none, (some 19), .mov (.t 28)⟩] [0, 1, 6, 7, 9, 13, 14, 15, 19]))
         (.cond (.t 19)
          (.seq (.reg [⟨0, none, (some 29), .mov (.t 6)⟩,
               ⟨1, none, (some 4), .mov (.t 29)⟩,
               ⟨2, none, (some 5), .mov (.c (.int .i64 9))⟩] [4, 5])
           (.ret))
          (.seq (.join [] [(.normal, [(0, .keep), (1, .keep), (6, .keep), (7, .keep), (9, .keep), (13, .keep), (14, .keep), (15, .keep), (30, (.val false false ⟨false, .bool⟩))])] (.reg [⟨0, none, (some 31), .mov (.t 6)⟩,
                ⟨1, none, (some 32), .bin .gtr (.t 31) (.c (.int .i64 0))⟩,
                ⟨2, none, (some 33), .mov (.t 32)⟩,
                ⟨3, (some (33, true)), (some 34), .fadr 0 (.t 9)⟩,
                ⟨4, (some (33, true)), (some 35), .load none (.t 34)⟩,
                ⟨5, (some (33, true)), (some 36), .fadr 0 (.t 7)⟩,
                ⟨6, (some (33, true)), (some 37), .load none (.t 36)⟩,
                ⟨7, (some (33, true)), (some 38), .bin .eql (.t 35) (.t 37)⟩,
                ⟨8, none, (some 39), .pick (.t 33) (.t 38) (.c (.bool false))⟩,
                ⟨9, none, (some 30), .mov (.t 39)⟩] [0, 1, 6, 7, 9, 13, 14, 15, 30]))
           (.cond (.t 30)
            (.seq (.reg [⟨0, none, (some 40), .mov (.t 6)⟩,
                 ⟨1, none, (some 4), .mov (.t 40)⟩,
                 ⟨2, none, (some 5), .mov (.c (.int .i64 10))⟩] [4, 5])
             (.ret))
            (.skip))))))
       (.seq (.reg [⟨0, none, (some 41), .mov (.t 1)⟩,
           ⟨1, none, (some 42), .fadr 0 (.t 9)⟩,
           ⟨2, none, (some 43), .load none (.t 42)⟩,
           ⟨3, none, (some 44), .fadr 1 (.t 9)⟩,
           ⟨4, none, (some 45), .load none (.t 44)⟩,
           ⟨5, none, (some 46), .call 20 [(.t 41), (.t 43), (.t 45)]⟩,
           ⟨6, none, (some 10), .mov (.t 46)⟩] [0, 1, 6, 7, 9, 10, 13, 14, 15])
       (.seq (.seq (.reg [⟨0, none, (some 47), .fadr 2 (.t 9)⟩,
            ⟨1, none, (some 48), .load none (.t 47)⟩,
            ⟨2, none, (some 49), .mov (.c (.int .i64 0))⟩] [0, 1, 6, 7, 9, 10, 13, 14, 15, 48, 49])
        (.block 3 (.loop [(0, .keep), (1, .keep), (6, .keep), (7, .keep), (9, .keep), (10, .keep), (13, .keep), (14, .keep), (15, .keep), (48, .keep), (49, (.val false false ⟨false, (.int .i64)⟩))] [(.ret, [(4, (.val false false ⟨false, (.int .i64)⟩)), (5, (.val false false ⟨false, (.int .i64)⟩))]), (.exit 3, [(0, .keep), (1, .keep), (6, .keep), (7, .keep), (9, .keep), (10, .keep), (13, .keep), (14, .keep), (15, .keep), (48, .keep), (49, (.val false false ⟨false, (.int .i64)⟩)), (50, (.val false false ⟨false, .bool⟩))])] (.seq (.reg [⟨0, none, (some 50), .bin .lss (.t 49) (.t 48)⟩] [0, 1, 6, 7, 9, 10, 13, 14, 15, 48, 49, 50])
          (.seq (.cond (.t 50)
            (.skip)
            (.exit 3))
          (.seq (.block 4 (.seq (.reg [⟨0, none, (some 51), .mov (.t 49)⟩,
                ⟨1, none, (some 11), .mov (.t 51)⟩] [0, 1, 6, 7, 9, 10, 11, 13, 14, 15, 48, 49])
            (.seq (.join [] [(.normal, [(0, .keep), (1, .keep), (6, .keep), (7, .keep), (9, .keep), (10, .keep), (11, .keep), (13, .keep), (14, .keep), (15, .keep), (48, .keep), (49, .keep), (69, (.val false false ⟨false, .bool⟩))])] (.drw [⟨0, none, (some 52), .mov (.t 11)⟩,
                 ⟨1, none, (some 53), .mov (.t 10)⟩,
                 ⟨2, none, (some 54), .len false (.t 53)⟩,
                 ⟨3, none, (some 55), .bin .geq (.t 52) (.t 54)⟩,
                 ⟨4, none, (some 56), .mov (.t 55)⟩,
                 ⟨5, (some (56, false)), (some 57), .mov (.t 10)⟩,
                 ⟨6, (some (56, false)), (some 58), .mov (.t 11)⟩,
                 ⟨7, (some (56, false)), (some 59), .iadr 1 (.t 57) (.t 58)⟩,
                 ⟨8, (some (56, false)), (some 60), .load none (.t 59)⟩,
                 ⟨9, (some (56, false)), (some 61), .mov (.t 0)⟩,
                 ⟨10, (some (56, false)), (some 62), .mov (.t 6)⟩,
                 ⟨11, (some (56, false)), (some 63), .mov (.t 11)⟩,
                 ⟨12, (some (56, false)), (some 64), .bin .add (.t 62) (.t 63)⟩,
                 ⟨13, (some (56, false)), (some 65), .iadr 3 (.t 61) (.t 64)⟩,
                 ⟨14, (some (56, false)), (some 66), .fadr 2 (.t 65)⟩,
                 ⟨15, (some (56, false)), (some 67), .load none (.t 66)⟩,
                 ⟨16, (some (56, false)), (some 68), .bin .neq (.t 60) (.t 67)⟩,
                 ⟨17, none, (some 69), .pick (.t 56) (.c (.bool true)) (.t 68)⟩] [] [0, 1, 6, 7, 9, 10, 11, 13, 14, 15, 48, 49, 69]))
            (.cond (.t 69)
             (.seq (.reg [⟨0, none, (some 70), .mov (.t 6)⟩,
                  ⟨1, none, (some 71), .mov (.t 11)⟩,
                  ⟨2, none, (some 72), .bin .add (.t 70) (.t 71)⟩,
                  ⟨3, none, (some 4), .mov (.t 72)⟩,
                  ⟨4, none, (some 5), .mov (.c (.int .i64 20))⟩] [4, 5])
              (.ret))
             (.skip)))))
          (.reg [⟨0, none, (some 73), .bin .add (.t 49) (.c (.int .i64 1))⟩,
             ⟨1, none, (some 49), .mov (.t 73)⟩] [0, 1, 6, 7, 9, 10, 13, 14, 15, 48, 49])))))))
       (.seq (.reg [⟨0, none, (some 74), .mov (.t 6)⟩,
           ⟨1, none, (some 75), .fadr 2 (.t 9)⟩,
           ⟨2, none, (some 76), .load none (.t 75)⟩,
           ⟨3, none, (some 77), .bin .add (.t 74) (.t 76)⟩,
           ⟨4, none, (some 6), .mov (.t 77)⟩] [0, 1, 6, 7, 13, 14, 15])
       (.reg [⟨0, none, (some 78), .mov (.t 0)⟩,
          ⟨1, none, (some 79), .mov (.t 6)⟩,
          ⟨2, none, (some 80), .bin .sub (.t 79) (.c (.int .i64 1))⟩,
          ⟨3, none, (some 81), .iadr 3 (.t 78) (.t 80)⟩,
          ⟨4, none, (some 82), .load (some 3) (.t 81)⟩,
          ⟨5, none, none, .store 3 (.t 7) (.t 82)⟩] [0, 1, 6, 7, 13, 14, 15])))))))
     (.reg [⟨0, none, (some 83), .bin .add (.t 15) (.c (.int .i64 1))⟩,
        ⟨1, none, (some 15), .mov (.t 83)⟩] [0, 1, 6, 7, 13, 14, 15])))))))
  (.seq (.reg [⟨0, none, (some 84), .mov (.t 6)⟩,
      ⟨1, none, (some 4), .mov (.t 84)⟩,
      ⟨2, none, (some 5), .mov (.c (.int .i64 0))⟩] [4, 5])
  (.ret))))),
  []⟩

def F_audit_Check (x : (List ((Int) × (Int) × Int)) × List ((Int) × (Int) × List (Int))) : Option ((Int) × Int) :=
  ((F_audit_Parts x.1).bind fun r196 => ((iterL (S := (Int) × (Int) × (Int) × (Int) × Int) (X := ((Int) × Int) ⊕ ((Int) × (Int) × (Int) × (Int) × (Int) × Bool)) (fun s197 => (bif (decide (s197.2.2.2.2 < (((r196.length) : Nat) : Int))) then (bif decide (0 ≤ s197.2.2.2.2) then ((r196[(s197.2.2.2.2).toNat]?).bind fun e198 => ((bif ((decide (s197.1 > 0)) == true) then (some (decide (e198.1 < s197.2.1))) else (some false)).bind fun v199 => (bif v199 then (some (Sum.inr (Sum.inl (s197.1, 9)))) else ((bif ((decide (s197.1 > 0)) == true) then (some (e198.1 == s197.2.1)) else (some false)).bind fun v200 => (bif v200 then (some (Sum.inr (Sum.inl (s197.1, 10)))) else ((F_audit_Of (x.2, e198.1, e198.2.1)).bind fun r201 => ((iterL (S := Int) (X := ((Int) × Int) ⊕ ((Int) × Bool)) (fun s202 => (bif (decide (s202 < e198.2.2)) then ((bif ((decide (s202 ≥ (((r201.length) : Nat) : Int))) == false) then (bif decide (0 ≤ s202) then ((r201[(s202).toNat]?).bind fun e203 => (bif decide (0 ≤ (IntKind.wrap .i64 (s197.1 + s202))) then ((x.1[((IntKind.wrap .i64 (s197.1 + s202))).toNat]?).bind fun e204 => (some (e203 != e204.2.2))) else none)) else none) else (some true)).bind fun v205 => (bif v205 then (some (Sum.inr (Sum.inl ((IntKind.wrap .i64 (s197.1 + s202)), 20)))) else (some (Sum.inl (IntKind.wrap .i64 (s202 + 1)))))) else (some (Sum.inr (Sum.inr (s202, (decide (s202 < e198.2.2)))))))) 0).bind fun w207 => match w207 with | Sum.inl v206 => (some (Sum.inr (Sum.inl (v206.1, v206.2)))) | Sum.inr w207 => (fun v208 => (bif decide (0 ≤ (IntKind.wrap .i64 ((IntKind.wrap .i64 (s197.1 + e198.2.2)) - 1))) then ((x.1[((IntKind.wrap .i64 ((IntKind.wrap .i64 (s197.1 + e198.2.2)) - 1))).toNat]?).bind fun e209 => (some (Sum.inl ((IntKind.wrap .i64 (s197.1 + e198.2.2)), e209.1, e209.2.1, e209.2.2, (IntKind.wrap .i64 (s197.2.2.2.2 + 1)))))) else none)) w207))))))) else none) else (some (Sum.inr (Sum.inr (s197.1, s197.2.1, s197.2.2.1, s197.2.2.2.1, s197.2.2.2.2, (decide (s197.2.2.2.2 < (((r196.length) : Nat) : Int))))))))) (0, 0, 0, 0, 0)).bind fun w211 => match w211 with | Sum.inl v210 => (some (v210.1, v210.2)) | Sum.inr w211 => (fun v212 => (some (v212.1, 0))) w211))

def A_batonlaw42_awake : AFn := ⟨0, [.tmp 0],
  .seq (.reg [⟨0, none, (some 0), .mov (.c (.bool false))⟩] [])
  (.seq (.reg [⟨0, none, (some 4), .build [(.int .i64 0), (.int .i64 0), (.int .u8 0)] [(0, 1, (.c (.int .i64 1))), (1, 1, (.c (.int .i64 2))), (2, 1, (.c (.int .u8 97)))]⟩,
      ⟨1, none, (some 5), .build [(.int .i64 0), (.int .i64 0), (.int .u8 0)] [(0, 1, (.c (.int .i64 1))), (1, 1, (.c (.int .i64 2))), (2, 1, (.c (.int .u8 98)))]⟩,
      ⟨2, none, (some 6), .bsl false 3 [(.int .i64 0), (.int .i64 0), (.int .u8 0)] 2 [(0, (.t 4)), (1, (.t 5))]⟩,
      ⟨3, none, (some 7), .bsl true 1 [(.int .u8 0)] 3 [(0, (.c (.int .u8 97))), (1, (.c (.int .u8 98))), (2, (.c (.int .u8 99)))]⟩,
      ⟨4, none, (some 8), .cvLL (.t 7)⟩,
      ⟨5, none, (some 9), .build [(.int .i64 0), (.int .i64 0), .nils] [(0, 1, (.c (.int .i64 1))), (1, 1, (.c (.int .i64 2))), (2, 1, (.t 8))]⟩,
      ⟨6, none, (some 10), .bsl true 3 [(.int .i64 0), (.int .i64 0), .nils] 1 [(0, (.t 9))]⟩,
      ⟨7, none, (some 11), .call 15 [(.t 6), (.t 10)]⟩,
      ⟨8, none, (some 3), .mov (.t 11)⟩,
      ⟨9, none, (some 12), .ext (.t 3) 0⟩,
      ⟨10, none, (some 13), .ext (.t 3) 1⟩,
      ⟨11, none, (some 1), .mov (.t 12)⟩,
      ⟨12, none, (some 2), .mov (.t 13)⟩] [1, 2])
  (.seq (.reg [⟨0, none, (some 14), .mov (.t 1)⟩,
      ⟨1, none, (some 15), .bin .eql (.t 14) (.c (.int .i64 2))⟩,
      ⟨2, none, (some 16), .mov (.t 15)⟩,
      ⟨3, (some (16, true)), (some 17), .mov (.t 2)⟩,
      ⟨4, (some (16, true)), (some 18), .bin .eql (.t 17) (.c (.int .i64 0))⟩,
      ⟨5, none, (some 19), .pick (.t 16) (.t 18) (.c (.bool false))⟩,
      ⟨6, none, (some 0), .mov (.t 19)⟩] [0])
  (.ret))),
  [(6, (.pair (.int .i64) (.pair (.int .i64) (.int .u8)))), (7, (.int .u8)), (10, (.pair (.int .i64) (.pair (.int .i64) (.lst (.int .u8)))))]⟩

def F_batonlaw42_awake (x : Unit) : Option Bool := some true

def A_batonlaw33_Ref : AFn := ⟨1, [.tmp 2],
  .seq (.reg [⟨0, none, (some 2), .mov (.c .nils)⟩] [0])
  (.seq (.reg [⟨0, none, (some 3), .mov (.c .nils)⟩] [0, 3])
  (.seq (.seq (.reg [⟨0, none, (some 4), .mov (.c (.int .i64 0))⟩] [0, 3, 4])
   (.block 0 (.loop [(0, .keep), (3, (.own (.pair (.int .i64) (.pair (.int .i64) (.int .u8))))), (4, (.val false false ⟨false, (.int .i64)⟩))] [(.exit 0, [(0, .keep), (3, (.own (.pair (.int .i64) (.pair (.int .i64) (.int .u8))))), (4, (.val false false ⟨false, (.int .i64)⟩)), (8, (.val false false ⟨false, .bool⟩))])] (.seq (.seq (.reg [⟨0, none, (some 5), .mov (.t 4)⟩,
          ⟨1, none, (some 6), .mov (.t 0)⟩,
          ⟨2, none, (some 7), .len false (.t 6)⟩,
          ⟨3, none, (some 8), .bin .lss (.t 5) (.t 7)⟩] [0, 3, 4, 8])
      (.cond (.t 8)
       (.skip)
       (.exit 0)))
     (.seq (.block 1 (.drw [⟨0, none, (some 11), .mov (.t 3)⟩,
          ⟨1, none, (some 12), .mov (.t 0)⟩,
          ⟨2, none, (some 13), .mov (.t 4)⟩,
          ⟨3, none, (some 14), .iadr 3 (.t 12) (.t 13)⟩,
          ⟨4, none, (some 15), .fadr 0 (.t 14)⟩,
          ⟨5, none, (some 16), .load none (.t 15)⟩,
          ⟨6, none, (some 17), .mov (.t 0)⟩,
          ⟨7, none, (some 18), .mov (.t 4)⟩,
          ⟨8, none, (some 19), .iadr 3 (.t 17) (.t 18)⟩,
          ⟨9, none, (some 20), .fadr 1 (.t 19)⟩,
          ⟨10, none, (some 21), .load none (.t 20)⟩,
          ⟨11, none, (some 22), .mov (.t 0)⟩,
          ⟨12, none, (some 23), .mov (.t 4)⟩,
          ⟨13, none, (some 24), .iadr 3 (.t 22) (.t 23)⟩,
          ⟨14, none, (some 25), .fadr 2 (.t 24)⟩,
          ⟨15, none, (some 26), .load none (.t 25)⟩,
          ⟨16, none, (some 27), .build [(.int .i64 0), (.int .i64 0), (.int .u8 0)] [(0, 1, (.t 16)), (1, 1, (.t 21)), (2, 1, (.t 26))]⟩,
          ⟨17, none, (some 28), .bsl false 3 [(.int .i64 0), (.int .i64 0), (.int .u8 0)] 1 [(0, (.t 27))]⟩] [⟨⟨18, none, (some 29), .app 3 24 (.t 11) (.t 28)⟩, [], [⟨19, none, (some 3), .mov (.t 29)⟩]⟩] [0, 3, 4]))
     (.reg [⟨0, none, (some 9), .mov (.t 4)⟩,
        ⟨1, none, (some 10), .bin .add (.t 9) (.c (.int .i64 1))⟩,
        ⟨2, none, (some 4), .mov (.t 10)⟩] [0, 3, 4]))))))
  (.seq (.reg [⟨0, none, (some 30), .mov (.t 3)⟩,
      ⟨1, none, (some 2), .mov (.t 30)⟩] [2])
  (.ret)))),
  [(28, (.pair (.int .i64) (.pair (.int .i64) (.int .u8)))), (29, (.pair (.int .i64) (.pair (.int .i64) (.int .u8))))]⟩

def F_batonlaw33_Ref (x : List ((Int) × (Int) × Int)) : Option (List ((Int) × (Int) × Int)) :=
  ((iterL (S := (List ((Int) × (Int) × Int)) × Int) (X := (List ((Int) × (Int) × Int)) × (Int) × Bool) (fun s24 => (bif (decide (s24.2 < (((x.length) : Nat) : Int))) then (bif decide (0 ≤ s24.2) then ((x[(s24.2).toNat]?).bind fun e25 => (bif decide (0 ≤ s24.2) then ((x[(s24.2).toNat]?).bind fun e26 => (bif decide (0 ≤ s24.2) then ((x[(s24.2).toNat]?).bind fun e27 => (bif decide ((s24.1.length + ([(e25.1, (e26.2.1, e27.2.2))] : List ((Int) × (Int) × Int)).length) * (24 + 1) ≤ most) then (some (Sum.inl ((s24.1 ++ ([(e25.1, (e26.2.1, e27.2.2))] : List ((Int) × (Int) × Int))), (IntKind.wrap .i64 (s24.2 + 1))))) else none)) else none)) else none)) else none) else (some (Sum.inr (s24.1, s24.2, (decide (s24.2 < (((x.length) : Nat) : Int)))))))) (([] : List ((Int) × (Int) × Int)), 0)).bind fun v28 => (some v28.1))

def A_batonlaw42_ref : AFn := ⟨1, [.tmp 2],
  .seq (.reg [⟨0, none, (some 2), .mov (.c .nils)⟩] [0])
  (.seq (.reg [⟨0, none, (some 3), .mov (.c .nils)⟩] [0, 3])
  (.seq (.seq (.reg [⟨0, none, (some 4), .mov (.c (.int .i64 0))⟩] [0, 3, 4])
   (.block 0 (.loop [(0, .keep), (3, (.own (.pair (.int .i64) (.pair (.int .i64) (.lst (.int .u8)))))), (4, (.val false false ⟨false, (.int .i64)⟩))] [(.exit 0, [(0, .keep), (3, (.own (.pair (.int .i64) (.pair (.int .i64) (.lst (.int .u8)))))), (4, (.val false false ⟨false, (.int .i64)⟩)), (8, (.val false false ⟨false, .bool⟩))])] (.seq (.seq (.reg [⟨0, none, (some 5), .mov (.t 4)⟩,
          ⟨1, none, (some 6), .mov (.t 0)⟩,
          ⟨2, none, (some 7), .len false (.t 6)⟩,
          ⟨3, none, (some 8), .bin .lss (.t 5) (.t 7)⟩] [0, 3, 4, 8])
      (.cond (.t 8)
       (.skip)
       (.exit 0)))
     (.seq (.block 1 (.drw [⟨0, none, (some 11), .mov (.t 3)⟩,
          ⟨1, none, (some 12), .mov (.t 0)⟩,
          ⟨2, none, (some 13), .mov (.t 4)⟩,
          ⟨3, none, (some 14), .iadr 3 (.t 12) (.t 13)⟩,
          ⟨4, none, (some 15), .fadr 0 (.t 14)⟩,
          ⟨5, none, (some 16), .load none (.t 15)⟩,
          ⟨6, none, (some 17), .mov (.t 0)⟩,
          ⟨7, none, (some 18), .mov (.t 4)⟩,
          ⟨8, none, (some 19), .iadr 3 (.t 17) (.t 18)⟩,
          ⟨9, none, (some 20), .fadr 1 (.t 19)⟩,
          ⟨10, none, (some 21), .load none (.t 20)⟩,
          ⟨11, none, (some 22), .mov (.t 0)⟩,
          ⟨12, none, (some 23), .mov (.t 4)⟩,
          ⟨13, none, (some 24), .iadr 3 (.t 22) (.t 23)⟩,
          ⟨14, none, (some 25), .fadr 2 (.t 24)⟩,
          ⟨15, none, (some 26), .load none (.t 25)⟩,
          ⟨16, none, (some 27), .build [(.int .i64 0), (.int .i64 0), .nils] [(0, 1, (.t 16)), (1, 1, (.t 21)), (2, 1, (.t 26))]⟩] [⟨⟨17, none, (some 28), .bsl true 3 [(.int .i64 0), (.int .i64 0), .nils] 1 [(0, (.t 27))]⟩, [], []⟩,
       ⟨⟨18, none, (some 29), .app 3 40 (.t 11) (.t 28)⟩, [], [⟨19, none, (some 3), .mov (.t 29)⟩]⟩] [0, 3, 4]))
     (.reg [⟨0, none, (some 9), .mov (.t 4)⟩,
        ⟨1, none, (some 10), .bin .add (.t 9) (.c (.int .i64 1))⟩,
        ⟨2, none, (some 4), .mov (.t 10)⟩] [0, 3, 4]))))))
  (.seq (.reg [⟨0, none, (some 30), .mov (.t 3)⟩,
      ⟨1, none, (some 2), .mov (.t 30)⟩] [2])
  (.ret)))),
  [(28, (.pair (.int .i64) (.pair (.int .i64) (.lst (.int .u8))))), (29, (.pair (.int .i64) (.pair (.int .i64) (.lst (.int .u8)))))]⟩

def F_batonlaw42_ref (x : List ((Int) × (Int) × List (Int))) : Option (List ((Int) × (Int) × List (Int))) :=
  ((iterL (S := (List ((Int) × (Int) × List (Int))) × Int) (X := (List ((Int) × (Int) × List (Int))) × (Int) × Bool) (fun s24 => (bif (decide (s24.2 < (((x.length) : Nat) : Int))) then (bif decide (0 ≤ s24.2) then ((x[(s24.2).toNat]?).bind fun e25 => (bif decide (0 ≤ s24.2) then ((x[(s24.2).toNat]?).bind fun e26 => (bif decide (0 ≤ s24.2) then ((x[(s24.2).toNat]?).bind fun e27 => (bif decide ((s24.1.length + ([(e25.1, (e26.2.1, e27.2.2))] : List ((Int) × (Int) × List (Int))).length) * (40 + 1) ≤ most) then (some (Sum.inl ((s24.1 ++ ([(e25.1, (e26.2.1, e27.2.2))] : List ((Int) × (Int) × List (Int)))), (IntKind.wrap .i64 (s24.2 + 1))))) else none)) else none)) else none)) else none) else (some (Sum.inr (s24.1, s24.2, (decide (s24.2 < (((x.length) : Nat) : Int)))))))) (([] : List ((Int) × (Int) × List (Int))), 0)).bind fun v28 => (some v28.1))

def A_batonref42_Of : AFn := ⟨3, [.tmp 6],
  .seq (.reg [⟨0, none, (some 6), .mov (.c .nils)⟩] [0, 1, 2])
  (.seq (.reg [⟨0, none, (some 7), .mov (.c .nils)⟩] [0, 1, 2, 7])
  (.seq (.seq (.reg [⟨0, none, (some 8), .mov (.c (.int .i64 0))⟩] [0, 1, 2, 7, 8])
   (.block 0 (.loop [(0, .keep), (1, .keep), (2, .keep), (7, (.own (.int .u8))), (8, (.val false false ⟨false, (.int .i64)⟩))] [(.exit 0, [(0, .keep), (1, .keep), (2, .keep), (7, (.own (.int .u8))), (8, (.val false false ⟨false, (.int .i64)⟩)), (12, (.val false false ⟨false, .bool⟩))])] (.seq (.seq (.reg [⟨0, none, (some 9), .mov (.t 8)⟩,
          ⟨1, none, (some 10), .mov (.t 0)⟩,
          ⟨2, none, (some 11), .len false (.t 10)⟩,
          ⟨3, none, (some 12), .bin .lss (.t 9) (.t 11)⟩] [0, 1, 2, 7, 8, 12])
      (.cond (.t 12)
       (.skip)
       (.exit 0)))
     (.seq (.join [7] [(.normal, [(0, .keep), (1, .keep), (2, .keep), (7, (.own (.int .u8))), (8, .keep)])] (.block 1 (.seq (.join [] [(.normal, [(0, .keep), (1, .keep), (2, .keep), (7, .keep), (8, .keep), (30, (.val false false ⟨false, .bool⟩))])] (.reg [⟨0, none, (some 15), .mov (.t 0)⟩,
             ⟨1, none, (some 16), .mov (.t 8)⟩,
             ⟨2, none, (some 17), .iadr 3 (.t 15) (.t 16)⟩,
             ⟨3, none, (some 18), .fadr 0 (.t 17)⟩,
             ⟨4, none, (some 19), .load none (.t 18)⟩,
             ⟨5, none, (some 20), .mov (.t 1)⟩,
             ⟨6, none, (some 21), .bin .eql (.t 19) (.t 20)⟩,
             ⟨7, none, (some 22), .mov (.t 21)⟩,
             ⟨8, (some (22, true)), (some 23), .mov (.t 0)⟩,
             ⟨9, (some (22, true)), (some 24), .mov (.t 8)⟩,
             ⟨10, (some (22, true)), (some 25), .iadr 3 (.t 23) (.t 24)⟩,
             ⟨11, (some (22, true)), (some 26), .fadr 1 (.t 25)⟩,
             ⟨12, (some (22, true)), (some 27), .load none (.t 26)⟩,
             ⟨13, (some (22, true)), (some 28), .mov (.t 2)⟩,
             ⟨14, (some (22, true)), (some 29), .bin .eql (.t 27) (.t 28)⟩,
             ⟨15, none, (some 30), .pick (.t 22) (.t 29) (.c (.bool false))⟩] [0, 1, 2, 7, 8, 30]))
        (.cond (.t 30)
         (.reg [⟨0, none, (some 31), .mov (.t 7)⟩,
             ⟨1, none, (some 32), .mov (.t 0)⟩,
             ⟨2, none, (some 33), .mov (.t 8)⟩,
             ⟨3, none, (some 34), .iadr 3 (.t 32) (.t 33)⟩,
             ⟨4, none, (some 35), .fadr 2 (.t 34)⟩,
             ⟨5, none, (some 36), .load none (.t 35)⟩,
             ⟨6, none, (some 37), .app 1 1 (.t 31) (.t 36)⟩,
             ⟨7, none, (some 7), .mov (.t 37)⟩] [0, 1, 2, 7, 8])
         (.skip)))))
     (.reg [⟨0, none, (some 13), .mov (.t 8)⟩,
        ⟨1, none, (some 14), .bin .add (.t 13) (.c (.int .i64 1))⟩,
        ⟨2, none, (some 8), .mov (.t 14)⟩] [0, 1, 2, 7, 8]))))))
  (.seq (.reg [⟨0, none, (some 38), .mov (.t 7)⟩,
      ⟨1, none, (some 6), .mov (.t 38)⟩] [6])
  (.ret)))),
  [(37, (.int .u8))]⟩

def F_batonref42_Of (x : (List ((Int) × (Int) × List (Int))) × (Int) × Int) : Option (List (Int)) :=
  ((iterL (S := (List (Int)) × Int) (X := (List (Int)) × (Int) × Bool) (fun s82 => (bif (decide (s82.2 < (((x.1.length) : Nat) : Int))) then (((bif decide (0 ≤ s82.2) then ((x.1[(s82.2).toNat]?).bind fun e83 => (bif ((e83.1 == x.2.1) == true) then (bif decide (0 ≤ s82.2) then ((x.1[(s82.2).toNat]?).bind fun e84 => (some (e84.2.1 == x.2.2))) else none) else (some false))) else none).bind fun v85 => (bif v85 then (bif decide (0 ≤ s82.2) then ((x.1[(s82.2).toNat]?).bind fun e86 => (bif decide ((s82.1.length + e86.2.2.length) * (1 + 1) ≤ most) then (some (s82.1 ++ e86.2.2)) else none)) else none) else (some s82.1))).bind fun v87 => (some (Sum.inl (v87, (IntKind.wrap .i64 (s82.2 + 1)))))) else (some (Sum.inr (s82.1, s82.2, (decide (s82.2 < (((x.1.length) : Nat) : Int)))))))) (([] : List (Int)), 0)).bind fun v88 => (some v88.1))

def A_batonref42_Check : AFn := ⟨2, [.tmp 4, .tmp 5],
  .seq (.reg [⟨0, none, (some 4), .mov (.c (.int .i64 0))⟩,
      ⟨1, none, (some 5), .mov (.c (.int .i64 0))⟩] [0, 1])
  (.seq (.seq (.reg [⟨0, none, (some 6), .mov (.c (.int .i64 0))⟩] [0, 1, 6])
   (.block 0 (.loop [(0, .keep), (1, .keep), (6, (.val false false ⟨false, (.int .i64)⟩))] [(.ret, [(4, (.val false false ⟨false, (.int .i64)⟩)), (5, (.val false false ⟨false, (.int .i64)⟩))]), (.exit 0, [(0, .keep), (1, .keep), (6, (.val false false ⟨false, (.int .i64)⟩)), (14, (.val false false ⟨false, .bool⟩))])] (.seq (.seq (.reg [⟨0, none, (some 11), .mov (.t 6)⟩,
          ⟨1, none, (some 12), .mov (.t 0)⟩,
          ⟨2, none, (some 13), .len false (.t 12)⟩,
          ⟨3, none, (some 14), .bin .lss (.t 11) (.t 13)⟩] [0, 1, 6, 14])
      (.cond (.t 14)
       (.skip)
       (.exit 0)))
     (.seq (.block 1 (.seq (.reg [⟨0, none, (some 17), .mov (.t 0)⟩,
           ⟨1, none, (some 18), .mov (.t 6)⟩,
           ⟨2, none, (some 19), .iadr 3 (.t 17) (.t 18)⟩,
           ⟨3, none, (some 20), .load (some 3) (.t 19)⟩,
           ⟨4, none, (some 7), .alloc true 3 [[(.int .i64 0), (.int .i64 0), (.int .u8 0)]]⟩,
           ⟨5, none, none, .store 3 (.t 7) (.t 20)⟩] [0, 1, 6, 7])
       (.seq (.seq (.join [] [(.normal, [(0, .keep), (1, .keep), (6, .keep), (7, .keep), (33, (.val false false ⟨false, .bool⟩))])] (.drw [⟨0, none, (some 21), .mov (.t 6)⟩,
             ⟨1, none, (some 22), .bin .gtr (.t 21) (.c (.int .i64 0))⟩,
             ⟨2, none, (some 23), .mov (.t 22)⟩,
             ⟨3, (some (23, true)), (some 24), .fadr 0 (.t 7)⟩,
             ⟨4, (some (23, true)), (some 25), .load none (.t 24)⟩,
             ⟨5, (some (23, true)), (some 26), .mov (.t 0)⟩,
             ⟨6, (some (23, true)), (some 27), .mov (.t 6)⟩,
             ⟨7, (some (23, true)), (some 28), .bin .sub (.t 27) (.c (.int .i64 1))⟩,
             ⟨8, (some (23, true)), (some 29), .iadr 3 (.t 26) (.t 28)⟩,
             ⟨9, (some (23, true)), (some 30), .fadr 0 (.t 29)⟩,
             ⟨10, (some (23, true)), (some 31), .load none (.t 30)⟩,
             ⟨11, (some (23, true)), (some 32), .bin .lss (.t 25) (.t 31)⟩,
             ⟨12, none, (some 33), .pick (.t 23) (.t 32) (.c (.bool false))⟩] [] [0, 1, 6, 7, 33]))
        (.cond (.t 33)
         (.seq (.reg [⟨0, none, (some 34), .mov (.t 6)⟩,
              ⟨1, none, (some 4), .mov (.t 34)⟩,
              ⟨2, none, (some 5), .mov (.c (.int .i64 9))⟩] [4, 5])
          (.ret))
         (.skip)))
       (.seq (.seq (.join [] [(.normal, [(0, .keep), (1, .keep), (6, .keep), (7, .keep), (58, (.val false false ⟨false, .bool⟩))])] (.drw [⟨0, none, (some 35), .mov (.t 6)⟩,
             ⟨1, none, (some 36), .bin .gtr (.t 35) (.c (.int .i64 0))⟩,
             ⟨2, none, (some 37), .mov (.t 36)⟩,
             ⟨3, (some (37, true)), (some 38), .fadr 0 (.t 7)⟩,
             ⟨4, (some (37, true)), (some 39), .load none (.t 38)⟩,
             ⟨5, (some (37, true)), (some 40), .mov (.t 0)⟩,
             ⟨6, (some (37, true)), (some 41), .mov (.t 6)⟩,
             ⟨7, (some (37, true)), (some 42), .bin .sub (.t 41) (.c (.int .i64 1))⟩,
             ⟨8, (some (37, true)), (some 43), .iadr 3 (.t 40) (.t 42)⟩,
             ⟨9, (some (37, true)), (some 44), .fadr 0 (.t 43)⟩,
             ⟨10, (some (37, true)), (some 45), .load none (.t 44)⟩,
             ⟨11, (some (37, true)), (some 46), .bin .eql (.t 39) (.t 45)⟩,
             ⟨12, none, (some 47), .pick (.t 37) (.t 46) (.c (.bool false))⟩,
             ⟨13, none, (some 48), .mov (.t 47)⟩,
             ⟨14, (some (48, true)), (some 49), .fadr 1 (.t 7)⟩,
             ⟨15, (some (48, true)), (some 50), .load none (.t 49)⟩,
             ⟨16, (some (48, true)), (some 51), .mov (.t 0)⟩,
             ⟨17, (some (48, true)), (some 52), .mov (.t 6)⟩,
             ⟨18, (some (48, true)), (some 53), .bin .sub (.t 52) (.c (.int .i64 1))⟩,
             ⟨19, (some (48, true)), (some 54), .iadr 3 (.t 51) (.t 53)⟩,
             ⟨20, (some (48, true)), (some 55), .fadr 1 (.t 54)⟩,
             ⟨21, (some (48, true)), (some 56), .load none (.t 55)⟩,
             ⟨22, (some (48, true)), (some 57), .bin .neq (.t 50) (.t 56)⟩,
             ⟨23, none, (some 58), .pick (.t 48) (.t 57) (.c (.bool false))⟩] [] [0, 1, 6, 7, 58]))
        (.cond (.t 58)
         (.seq (.reg [⟨0, none, (some 59), .mov (.t 6)⟩,
              ⟨1, none, (some 4), .mov (.t 59)⟩,
              ⟨2, none, (some 5), .mov (.c (.int .i64 10))⟩] [4, 5])
          (.ret))
         (.skip)))
       (.seq (.reg [⟨0, none, (some 8), .mov (.c (.int .i64 0))⟩] [0, 1, 6, 7, 8])
       (.seq (.seq (.reg [⟨0, none, (some 9), .mov (.c (.int .i64 0))⟩] [0, 1, 6, 7, 8, 9])
        (.block 2 (.loop [(0, .keep), (1, .keep), (6, .keep), (7, .keep), (8, (.val false false ⟨false, (.int .i64)⟩)), (9, (.val false false ⟨false, (.int .i64)⟩))] [(.exit 2, [(0, .keep), (1, .keep), (6, .keep), (7, .keep), (8, (.val false false ⟨false, (.int .i64)⟩)), (9, (.val false false ⟨false, (.int .i64)⟩)), (62, (.val false false ⟨false, .bool⟩))])] (.seq (.seq (.reg [⟨0, none, (some 60), .mov (.t 9)⟩,
               ⟨1, none, (some 61), .mov (.t 6)⟩,
               ⟨2, none, (some 62), .bin .lss (.t 60) (.t 61)⟩] [0, 1, 6, 7, 8, 9, 62])
           (.cond (.t 62)
            (.skip)
            (.exit 2)))
          (.seq (.join [] [(.normal, [(0, .keep), (1, .keep), (6, .keep), (7, .keep), (8, (.val false false ⟨false, (.int .i64)⟩)), (9, .keep)])] (.block 3 (.seq (.drw [⟨0, none, (some 65), .mov (.t 0)⟩,
                 ⟨1, none, (some 66), .mov (.t 9)⟩,
                 ⟨2, none, (some 67), .iadr 3 (.t 65) (.t 66)⟩,
                 ⟨3, none, (some 68), .fadr 0 (.t 67)⟩,
                 ⟨4, none, (some 69), .load none (.t 68)⟩,
                 ⟨5, none, (some 70), .fadr 0 (.t 7)⟩,
                 ⟨6, none, (some 71), .load none (.t 70)⟩,
                 ⟨7, none, (some 72), .bin .eql (.t 69) (.t 71)⟩] [] [0, 1, 6, 7, 8, 9, 72])
             (.cond (.t 72)
              (.reg [⟨0, none, (some 73), .mov (.t 8)⟩,
                  ⟨1, none, (some 74), .bin .add (.t 73) (.c (.int .i64 1))⟩,
                  ⟨2, none, (some 8), .mov (.t 74)⟩] [0, 1, 6, 7, 8, 9])
              (.skip)))))
          (.reg [⟨0, none, (some 63), .mov (.t 9)⟩,
             ⟨1, none, (some 64), .bin .add (.t 63) (.c (.int .i64 1))⟩,
             ⟨2, none, (some 9), .mov (.t 64)⟩] [0, 1, 6, 7, 8, 9]))))))
       (.seq (.reg [⟨0, none, (some 75), .mov (.t 1)⟩,
           ⟨1, none, (some 76), .fadr 0 (.t 7)⟩,
           ⟨2, none, (some 77), .load none (.t 76)⟩,
           ⟨3, none, (some 78), .fadr 1 (.t 7)⟩,
           ⟨4, none, (some 79), .load none (.t 78)⟩,
           ⟨5, none, (some 80), .call 21 [(.t 75), (.t 77), (.t 79)]⟩,
           ⟨6, none, (some 10), .mov (.t 80)⟩] [0, 1, 6, 7, 8, 10])
       (.seq (.join [] [(.normal, [(0, .keep), (1, .keep), (6, .keep), (93, (.val false false ⟨false, .bool⟩))])] (.drw [⟨0, none, (some 81), .mov (.t 8)⟩,
            ⟨1, none, (some 82), .mov (.t 10)⟩,
            ⟨2, none, (some 83), .len false (.t 82)⟩,
            ⟨3, none, (some 84), .bin .geq (.t 81) (.t 83)⟩,
            ⟨4, none, (some 85), .mov (.t 84)⟩,
            ⟨5, (some (85, false)), (some 86), .mov (.t 10)⟩,
            ⟨6, (some (85, false)), (some 87), .mov (.t 8)⟩,
            ⟨7, (some (85, false)), (some 88), .iadr 1 (.t 86) (.t 87)⟩,
            ⟨8, (some (85, false)), (some 89), .load none (.t 88)⟩,
            ⟨9, (some (85, false)), (some 90), .fadr 2 (.t 7)⟩,
            ⟨10, (some (85, false)), (some 91), .load none (.t 90)⟩,
            ⟨11, (some (85, false)), (some 92), .bin .neq (.t 89) (.t 91)⟩,
            ⟨12, none, (some 93), .pick (.t 85) (.c (.bool true)) (.t 92)⟩] [] [0, 1, 6, 93]))
       (.cond (.t 93)
        (.seq (.reg [⟨0, none, (some 94), .mov (.t 6)⟩,
             ⟨1, none, (some 4), .mov (.t 94)⟩,
             ⟨2, none, (some 5), .mov (.c (.int .i64 20))⟩] [4, 5])
         (.ret))
        (.skip))))))))))
     (.reg [⟨0, none, (some 15), .mov (.t 6)⟩,
        ⟨1, none, (some 16), .bin .add (.t 15) (.c (.int .i64 1))⟩,
        ⟨2, none, (some 6), .mov (.t 16)⟩] [0, 1, 6]))))))
  (.seq (.reg [⟨0, none, (some 95), .mov (.t 0)⟩,
      ⟨1, none, (some 96), .len false (.t 95)⟩,
      ⟨2, none, (some 4), .mov (.t 96)⟩,
      ⟨3, none, (some 5), .mov (.c (.int .i64 0))⟩] [4, 5])
  (.ret))),
  []⟩

def F_batonref42_Check (x : (List ((Int) × (Int) × Int)) × List ((Int) × (Int) × List (Int))) : Option ((Int) × Int) :=
  ((iterL (S := Int) (X := ((Int) × Int) ⊕ ((Int) × Bool)) (fun s202 => (bif (decide (s202 < (((x.1.length) : Nat) : Int))) then (bif decide (0 ≤ s202) then ((x.1[(s202).toNat]?).bind fun e203 => ((bif ((decide (s202 > 0)) == true) then (bif decide (0 ≤ (IntKind.wrap .i64 (s202 - 1))) then ((x.1[((IntKind.wrap .i64 (s202 - 1))).toNat]?).bind fun e204 => (some (decide (e203.1 < e204.1)))) else none) else (some false)).bind fun v205 => (bif v205 then (some (Sum.inr (Sum.inl (s202, 9)))) else ((bif ((decide (s202 > 0)) == true) then (bif decide (0 ≤ (IntKind.wrap .i64 (s202 - 1))) then ((x.1[((IntKind.wrap .i64 (s202 - 1))).toNat]?).bind fun e206 => (bif ((e203.1 == e206.1) == true) then (bif decide (0 ≤ (IntKind.wrap .i64 (s202 - 1))) then ((x.1[((IntKind.wrap .i64 (s202 - 1))).toNat]?).bind fun e207 => (some (e203.2.1 != e207.2.1))) else none) else (some false))) else none) else (some false)).bind fun v208 => (bif v208 then (some (Sum.inr (Sum.inl (s202, 10)))) else ((iterL (S := (Int) × Int) (X := (Int) × (Int) × Bool) (fun s209 => (bif (decide (s209.2 < s202)) then ((bif decide (0 ≤ s209.2) then ((x.1[(s209.2).toNat]?).bind fun e210 => (bif (e210.1 == e203.1) then (some (IntKind.wrap .i64 (s209.1 + 1))) else (some s209.1))) else none).bind fun v211 => (some (Sum.inl (v211, (IntKind.wrap .i64 (s209.2 + 1)))))) else (some (Sum.inr (s209.1, s209.2, (decide (s209.2 < s202))))))) (0, 0)).bind fun v212 => ((F_batonref42_Of (x.2, e203.1, e203.2.1)).bind fun r213 => ((bif ((decide (v212.1 ≥ (((r213.length) : Nat) : Int))) == false) then (bif decide (0 ≤ v212.1) then ((r213[(v212.1).toNat]?).bind fun e214 => (some (e214 != e203.2.2))) else none) else (some true)).bind fun v215 => (bif v215 then (some (Sum.inr (Sum.inl (s202, 20)))) else (some (Sum.inl (IntKind.wrap .i64 (s202 + 1))))))))))))) else none) else (some (Sum.inr (Sum.inr (s202, (decide (s202 < (((x.1.length) : Nat) : Int))))))))) 0).bind fun w217 => match w217 with | Sum.inl v216 => (some (v216.1, v216.2)) | Sum.inr w217 => (fun v218 => (some ((((x.1.length) : Nat) : Int), 0))) w217)

def A_batonref01_Same : AFn := ⟨2, [.tmp 4],
  .seq (.reg [⟨0, none, (some 4), .mov (.c (.bool false))⟩] [0, 1])
  (.seq (.seq (.reg [⟨0, none, (some 6), .mov (.t 0)⟩,
       ⟨1, none, (some 7), .len false (.t 6)⟩,
       ⟨2, none, (some 8), .mov (.t 1)⟩,
       ⟨3, none, (some 9), .len false (.t 8)⟩,
       ⟨4, none, (some 10), .bin .neq (.t 7) (.t 9)⟩] [0, 1, 10])
   (.cond (.t 10)
    (.seq (.reg [⟨0, none, (some 4), .mov (.c (.bool false))⟩] [4])
     (.ret))
    (.skip)))
  (.seq (.seq (.reg [⟨0, none, (some 5), .mov (.c (.int .i64 0))⟩] [0, 1, 5])
   (.block 0 (.loop [(0, .keep), (1, .keep), (5, (.val false false ⟨false, (.int .i64)⟩))] [(.ret, [(4, (.val false false ⟨false, .bool⟩))]), (.exit 0, [(0, .keep), (1, .keep), (5, (.val false false ⟨false, (.int .i64)⟩)), (14, (.val false false ⟨false, .bool⟩))])] (.seq (.seq (.reg [⟨0, none, (some 11), .mov (.t 5)⟩,
          ⟨1, none, (some 12), .mov (.t 0)⟩,
          ⟨2, none, (some 13), .len false (.t 12)⟩,
          ⟨3, none, (some 14), .bin .lss (.t 11) (.t 13)⟩] [0, 1, 5, 14])
      (.cond (.t 14)
       (.skip)
       (.exit 0)))
     (.seq (.block 1 (.seq (.drw [⟨0, none, (some 17), .mov (.t 0)⟩,
           ⟨1, none, (some 18), .mov (.t 5)⟩,
           ⟨2, none, (some 19), .iadr 1 (.t 17) (.t 18)⟩,
           ⟨3, none, (some 20), .load none (.t 19)⟩,
           ⟨4, none, (some 21), .mov (.t 1)⟩,
           ⟨5, none, (some 22), .mov (.t 5)⟩,
           ⟨6, none, (some 23), .iadr 1 (.t 21) (.t 22)⟩,
           ⟨7, none, (some 24), .load none (.t 23)⟩,
           ⟨8, none, (some 25), .bin .neq (.t 20) (.t 24)⟩] [] [0, 1, 5, 25])
       (.cond (.t 25)
        (.seq (.reg [⟨0, none, (some 4), .mov (.c (.bool false))⟩] [4])
         (.ret))
        (.skip))))
     (.reg [⟨0, none, (some 15), .mov (.t 5)⟩,
        ⟨1, none, (some 16), .bin .add (.t 15) (.c (.int .i64 1))⟩,
        ⟨2, none, (some 5), .mov (.t 16)⟩] [0, 1, 5]))))))
  (.seq (.reg [⟨0, none, (some 4), .mov (.c (.bool true))⟩] [4])
  (.ret)))),
  []⟩

def F_batonref01_Same (x : (List (Int)) × List (Int)) : Option (Bool) :=
  (bif ((((x.1.length) : Nat) : Int) != (((x.2.length) : Nat) : Int)) then (some false) else ((iterL (S := Int) (X := (Bool) ⊕ ((Int) × Bool)) (fun s26 => (bif (decide (s26 < (((x.1.length) : Nat) : Int))) then (bif decide (0 ≤ s26) then ((x.1[(s26).toNat]?).bind fun e27 => (bif decide (0 ≤ s26) then ((x.2[(s26).toNat]?).bind fun e28 => (bif (e27 != e28) then (some (Sum.inr (Sum.inl false))) else (some (Sum.inl (IntKind.wrap .i64 (s26 + 1)))))) else none)) else none) else (some (Sum.inr (Sum.inr (s26, (decide (s26 < (((x.1.length) : Nat) : Int))))))))) 0).bind fun w30 => match w30 with | Sum.inl v29 => (some v29) | Sum.inr w30 => (fun v31 => (some true)) w30))

def A_batonlaw42_AuditChecks : AFn := ⟨3, [.tmp 6],
  .seq (.reg [⟨0, none, (some 5), .box true (.t 2)⟩,
      ⟨1, none, (some 6), .mov (.c (.bool false))⟩] [0, 1, 5])
  (.seq (.seq (.reg [⟨0, none, (some 12), .call 14 []⟩,
       ⟨1, none, (some 13), .un .not (.t 12)⟩] [0, 1, 5, 13])
   (.cond (.t 13)
    (.seq (.reg [⟨0, none, (some 6), .mov (.c (.bool false))⟩] [6])
     (.ret))
    (.skip)))
  (.seq (.seq (.join [] [(.normal, [(0, .keep), (1, .keep), (5, .keep), (21, (.val false false ⟨false, .bool⟩))])] (.reg [⟨0, none, (some 14), .mov (.t 0)⟩,
        ⟨1, none, (some 15), .len false (.t 14)⟩,
        ⟨2, none, (some 16), .bin .gtr (.t 15) (.c (.int .i64 60))⟩,
        ⟨3, none, (some 17), .mov (.t 16)⟩,
        ⟨4, (some (17, false)), (some 18), .mov (.t 1)⟩,
        ⟨5, (some (17, false)), (some 19), .len false (.t 18)⟩,
        ⟨6, (some (17, false)), (some 20), .bin .gtr (.t 19) (.c (.int .i64 20))⟩,
        ⟨7, none, (some 21), .pick (.t 17) (.c (.bool true)) (.t 20)⟩] [0, 1, 5, 21]))
   (.cond (.t 21)
    (.seq (.reg [⟨0, none, (some 6), .mov (.c (.bool true))⟩] [6])
     (.ret))
    (.skip)))
  (.seq (.seq (.reg [⟨0, none, (some 7), .mov (.c (.int .i64 0))⟩] [0, 1, 5, 7])
   (.block 0 (.loop [(0, .keep), (1, .keep), (5, .keep), (7, (.val false false ⟨false, (.int .i64)⟩))] [(.ret, [(6, (.val false false ⟨false, .bool⟩))]), (.exit 0, [(0, .keep), (1, .keep), (5, .keep), (7, (.val false false ⟨false, (.int .i64)⟩)), (25, (.val false false ⟨false, .bool⟩))])] (.seq (.seq (.reg [⟨0, none, (some 22), .mov (.t 7)⟩,
          ⟨1, none, (some 23), .mov (.t 1)⟩,
          ⟨2, none, (some 24), .len false (.t 23)⟩,
          ⟨3, none, (some 25), .bin .lss (.t 22) (.t 24)⟩] [0, 1, 5, 7, 25])
      (.cond (.t 25)
       (.skip)
       (.exit 0)))
     (.seq (.block 1 (.seq (.reg [⟨0, none, (some 28), .mov (.t 1)⟩,
           ⟨1, none, (some 29), .mov (.t 7)⟩,
           ⟨2, none, (some 30), .iadr 3 (.t 28) (.t 29)⟩,
           ⟨3, none, (some 31), .fadr 2 (.t 30)⟩,
           ⟨4, none, (some 32), .load none (.t 31)⟩,
           ⟨5, none, (some 33), .len false (.t 32)⟩,
           ⟨6, none, (some 34), .bin .gtr (.t 33) (.c (.int .i64 100))⟩] [0, 1, 5, 7, 34])
       (.cond (.t 34)
        (.seq (.reg [⟨0, none, (some 6), .mov (.c (.bool true))⟩] [6])
         (.ret))
        (.skip))))
     (.reg [⟨0, none, (some 26), .mov (.t 7)⟩,
        ⟨1, none, (some 27), .bin .add (.t 26) (.c (.int .i64 1))⟩,
        ⟨2, none, (some 7), .mov (.t 27)⟩] [0, 1, 5, 7]))))))
  (.seq (.reg [⟨0, none, (some 36), .mov (.t 0)⟩,
      ⟨1, none, (some 37), .mov (.t 1)⟩,
      ⟨2, none, (some 38), .call 15 [(.t 36), (.t 37)]⟩,
      ⟨3, none, (some 35), .mov (.t 38)⟩,
      ⟨4, none, (some 39), .ext (.t 35) 0⟩,
      ⟨5, none, (some 40), .ext (.t 35) 1⟩,
      ⟨6, none, (some 8), .mov (.t 39)⟩,
      ⟨7, none, (some 9), .mov (.t 40)⟩] [0, 1, 5, 8, 9])
  (.seq (.reg [⟨0, none, (some 42), .mov (.t 0)⟩,
      ⟨1, none, (some 43), .call 17 [(.t 42)]⟩,
      ⟨2, none, (some 44), .mov (.t 1)⟩,
      ⟨3, none, (some 45), .call 18 [(.t 44)]⟩,
      ⟨4, none, (some 46), .call 16 [(.t 43), (.t 45)]⟩,
      ⟨5, none, (some 41), .mov (.t 46)⟩,
      ⟨6, none, (some 47), .ext (.t 41) 0⟩,
      ⟨7, none, (some 48), .ext (.t 41) 1⟩,
      ⟨8, none, (some 10), .mov (.t 47)⟩,
      ⟨9, none, (some 11), .mov (.t 48)⟩] [1, 5, 8, 9, 10, 11])
  (.seq (.drw [⟨0, none, (some 49), .mov (.t 8)⟩,
      ⟨1, none, (some 50), .mov (.t 10)⟩,
      ⟨2, none, (some 51), .bin .eql (.t 49) (.t 50)⟩,
      ⟨3, none, (some 52), .mov (.t 51)⟩,
      ⟨4, (some (52, true)), (some 53), .mov (.t 9)⟩,
      ⟨5, (some (52, true)), (some 54), .mov (.t 11)⟩,
      ⟨6, (some (52, true)), (some 55), .bin .eql (.t 53) (.t 54)⟩,
      ⟨7, none, (some 56), .pick (.t 52) (.t 55) (.c (.bool false))⟩,
      ⟨8, none, (some 57), .mov (.t 56)⟩,
      ⟨9, (some (57, true)), (some 58), .mov (.t 1)⟩,
      ⟨10, (some (57, true)), (some 59), .iadrA 2 1 (.t 5) (.c (.int .i64 0))⟩,
      ⟨11, (some (57, true)), (some 60), .load none (.t 59)⟩,
      ⟨12, (some (57, true)), (some 61), .iadrA 2 1 (.t 5) (.c (.int .i64 1))⟩,
      ⟨13, (some (57, true)), (some 62), .load none (.t 61)⟩,
      ⟨14, (some (57, true)), (some 63), .call 20 [(.t 58), (.t 60), (.t 62)]⟩,
      ⟨15, (some (57, true)), (some 64), .mov (.t 1)⟩,
      ⟨16, (some (57, true)), (some 65), .call 18 [(.t 64)]⟩,
      ⟨17, (some (57, true)), (some 66), .iadrA 2 1 (.t 5) (.c (.int .i64 0))⟩,
      ⟨18, (some (57, true)), (some 67), .load none (.t 66)⟩,
      ⟨19, (some (57, true)), (some 68), .iadrA 2 1 (.t 5) (.c (.int .i64 1))⟩,
      ⟨20, (some (57, true)), (some 69), .load none (.t 68)⟩,
      ⟨21, (some (57, true)), (some 70), .call 21 [(.t 65), (.t 67), (.t 69)]⟩,
      ⟨22, (some (57, true)), (some 71), .call 19 [(.t 63), (.t 70)]⟩,
      ⟨23, none, (some 72), .pick (.t 57) (.t 71) (.c (.bool false))⟩,
      ⟨24, none, (some 6), .mov (.t 72)⟩] [] [6])
  (.ret))))))),
  []⟩

def F_batonlaw42_AuditChecks (x : (List ((Int) × (Int) × Int)) × (List ((Int) × (Int) × List (Int))) × List (Int)) : Option (Bool) :=
  ((F_batonlaw42_awake ()).bind fun r35 => (bif (!r35) then (some false) else ((bif ((decide ((((x.1.length) : Nat) : Int) > 60)) == false) then (some (decide ((((x.2.1.length) : Nat) : Int) > 20))) else (some true)).bind fun v36 => (bif v36 then (some true) else ((iterL (S := Int) (X := (Bool) ⊕ ((Int) × Bool)) (fun s37 => (bif (decide (s37 < (((x.2.1.length) : Nat) : Int))) then (bif decide (0 ≤ s37) then ((x.2.1[(s37).toNat]?).bind fun e38 => (bif (decide ((((e38.2.2.length) : Nat) : Int) > 100)) then (some (Sum.inr (Sum.inl true))) else (some (Sum.inl (IntKind.wrap .i64 (s37 + 1)))))) else none) else (some (Sum.inr (Sum.inr (s37, (decide (s37 < (((x.2.1.length) : Nat) : Int))))))))) 0).bind fun w40 => match w40 with | Sum.inl v39 => (some v39) | Sum.inr w40 => (fun v41 => ((F_audit_Check (x.1, x.2.1)).bind fun r42 => ((F_batonlaw33_Ref x.1).bind fun r43 => ((F_batonlaw42_ref x.2.1).bind fun r44 => ((F_batonref42_Check (r43, r44)).bind fun r45 => (bif ((r42.1 == r45.1) == true) then (bif ((r42.2 == r45.2) == true) then ((x.2.2[0]?).bind fun e46 => ((x.2.2[1]?).bind fun e47 => ((F_audit_Of (x.2.1, e46, e47)).bind fun r48 => ((F_batonlaw42_ref x.2.1).bind fun r49 => ((x.2.2[0]?).bind fun e50 => ((x.2.2[1]?).bind fun e51 => ((F_batonref42_Of (r49, e50, e51)).bind fun r52 => ((F_batonref01_Same (r48, r52)).bind fun r53 => (some r53))))))))) else (some false)) else (some false))))))) w40)))))

def A_batonlaw42_AuditParts : AFn := ⟨1, [.tmp 2],
  .seq (.reg [⟨0, none, (some 2), .mov (.c (.bool false))⟩] [0])
  (.seq (.seq (.reg [⟨0, none, (some 8), .call 14 []⟩,
       ⟨1, none, (some 9), .un .not (.t 8)⟩] [0, 9])
   (.cond (.t 9)
    (.seq (.reg [⟨0, none, (some 2), .mov (.c (.bool false))⟩] [2])
     (.ret))
    (.skip)))
  (.seq (.seq (.reg [⟨0, none, (some 10), .mov (.t 0)⟩,
       ⟨1, none, (some 11), .len false (.t 10)⟩,
       ⟨2, none, (some 12), .bin .gtr (.t 11) (.c (.int .i64 100))⟩] [0, 12])
   (.cond (.t 12)
    (.seq (.reg [⟨0, none, (some 2), .mov (.c (.bool true))⟩] [2])
     (.ret))
    (.skip)))
  (.seq (.reg [⟨0, none, (some 13), .mov (.t 0)⟩,
      ⟨1, none, (some 14), .call 22 [(.t 13)]⟩,
      ⟨2, none, (some 3), .mov (.t 14)⟩] [0, 3])
  (.seq (.reg [⟨0, none, (some 4), .mov (.c (.int .i64 0))⟩] [0, 3, 4])
  (.seq (.seq (.reg [⟨0, none, (some 5), .mov (.c (.int .i64 0))⟩] [0, 3, 4, 5])
   (.block 0 (.loop [(0, .keep), (3, .keep), (4, (.val false false ⟨false, (.int .i64)⟩)), (5, (.val false false ⟨false, (.int .i64)⟩))] [(.ret, [(2, (.val false false ⟨false, .bool⟩))]), (.exit 0, [(0, .keep), (3, .keep), (4, (.val false false ⟨false, (.int .i64)⟩)), (5, (.val false false ⟨false, (.int .i64)⟩)), (18, (.val false false ⟨false, .bool⟩))])] (.seq (.seq (.reg [⟨0, none, (some 15), .mov (.t 5)⟩,
          ⟨1, none, (some 16), .mov (.t 3)⟩,
          ⟨2, none, (some 17), .len false (.t 16)⟩,
          ⟨3, none, (some 18), .bin .lss (.t 15) (.t 17)⟩] [0, 3, 4, 5, 18])
      (.cond (.t 18)
       (.skip)
       (.exit 0)))
     (.seq (.block 1 (.seq (.reg [⟨0, none, (some 21), .mov (.t 3)⟩,
           ⟨1, none, (some 22), .mov (.t 5)⟩,
           ⟨2, none, (some 23), .iadr 3 (.t 21) (.t 22)⟩,
           ⟨3, none, (some 24), .load (some 3) (.t 23)⟩,
           ⟨4, none, (some 6), .alloc true 3 [[(.int .i64 0), (.int .i64 0), (.int .i64 0)]]⟩,
           ⟨5, none, none, .store 3 (.t 6) (.t 24)⟩] [0, 3, 4, 5, 6])
       (.seq (.seq (.join [] [(.normal, [(0, .keep), (3, .keep), (4, .keep), (5, .keep), (6, .keep), (62, (.val false false ⟨false, .bool⟩))])] (.drw [⟨0, none, (some 25), .fadr 2 (.t 6)⟩,
             ⟨1, none, (some 26), .load none (.t 25)⟩,
             ⟨2, none, (some 27), .bin .lss (.t 26) (.c (.int .i64 1))⟩,
             ⟨3, none, (some 28), .mov (.t 27)⟩,
             ⟨4, (some (28, false)), (some 29), .fadr 2 (.t 6)⟩,
             ⟨5, (some (28, false)), (some 30), .load none (.t 29)⟩,
             ⟨6, (some (28, false)), (some 31), .mov (.t 0)⟩,
             ⟨7, (some (28, false)), (some 32), .len false (.t 31)⟩,
             ⟨8, (some (28, false)), (some 33), .mov (.t 4)⟩,
             ⟨9, (some (28, false)), (some 34), .bin .sub (.t 32) (.t 33)⟩,
             ⟨10, (some (28, false)), (some 35), .bin .gtr (.t 30) (.t 34)⟩,
             ⟨11, none, (some 36), .pick (.t 28) (.c (.bool true)) (.t 35)⟩,
             ⟨12, none, (some 37), .mov (.t 36)⟩,
             ⟨13, (some (37, false)), (some 38), .mov (.t 5)⟩,
             ⟨14, (some (37, false)), (some 39), .bin .gtr (.t 38) (.c (.int .i64 0))⟩,
             ⟨15, (some (37, false)), (some 40), .mov (.t 39)⟩,
             ⟨16, (some (40, true)), (some 41), .mov (.t 3)⟩,
             ⟨17, (some (40, true)), (some 42), .mov (.t 5)⟩,
             ⟨18, (some (40, true)), (some 43), .bin .sub (.t 42) (.c (.int .i64 1))⟩,
             ⟨19, (some (40, true)), (some 44), .iadr 3 (.t 41) (.t 43)⟩,
             ⟨20, (some (40, true)), (some 45), .fadr 0 (.t 44)⟩,
             ⟨21, (some (40, true)), (some 46), .load none (.t 45)⟩,
             ⟨22, (some (40, true)), (some 47), .fadr 0 (.t 6)⟩,
             ⟨23, (some (40, true)), (some 48), .load none (.t 47)⟩,
             ⟨24, (some (40, true)), (some 49), .bin .eql (.t 46) (.t 48)⟩,
             ⟨25, (some (37, false)), (some 50), .pick (.t 40) (.t 49) (.c (.bool false))⟩,
             ⟨26, (some (37, false)), (some 51), .mov (.t 50)⟩,
             ⟨27, (some (51, true)), (some 52), .mov (.t 3)⟩,
             ⟨28, (some (51, true)), (some 53), .mov (.t 5)⟩,
             ⟨29, (some (51, true)), (some 54), .bin .sub (.t 53) (.c (.int .i64 1))⟩,
             ⟨30, (some (51, true)), (some 55), .iadr 3 (.t 52) (.t 54)⟩,
             ⟨31, (some (51, true)), (some 56), .fadr 1 (.t 55)⟩,
             ⟨32, (some (51, true)), (some 57), .load none (.t 56)⟩,
             ⟨33, (some (51, true)), (some 58), .fadr 1 (.t 6)⟩,
             ⟨34, (some (51, true)), (some 59), .load none (.t 58)⟩,
             ⟨35, (some (51, true)), (some 60), .bin .eql (.t 57) (.t 59)⟩,
             ⟨36, (some (37, false)), (some 61), .pick (.t 51) (.t 60) (.c (.bool false))⟩,
             ⟨37, none, (some 62), .pick (.t 37) (.c (.bool true)) (.t 61)⟩] [] [0, 3, 4, 5, 6, 62]))
        (.cond (.t 62)
         (.seq (.reg [⟨0, none, (some 2), .mov (.c (.bool false))⟩] [2])
          (.ret))
         (.skip)))
       (.seq (.seq (.reg [⟨0, none, (some 7), .mov (.c (.int .i64 0))⟩] [0, 3, 4, 5, 6, 7])
        (.block 2 (.loop [(0, .keep), (3, .keep), (4, .keep), (5, .keep), (6, .keep), (7, (.val false false ⟨false, (.int .i64)⟩))] [(.ret, [(2, (.val false false ⟨false, .bool⟩))]), (.exit 2, [(0, .keep), (3, .keep), (4, .keep), (5, .keep), (6, .keep), (7, (.val false false ⟨false, (.int .i64)⟩)), (66, (.val false false ⟨false, .bool⟩))])] (.seq (.seq (.reg [⟨0, none, (some 63), .mov (.t 7)⟩,
               ⟨1, none, (some 64), .fadr 2 (.t 6)⟩,
               ⟨2, none, (some 65), .load none (.t 64)⟩,
               ⟨3, none, (some 66), .bin .lss (.t 63) (.t 65)⟩] [0, 3, 4, 5, 6, 7, 66])
           (.cond (.t 66)
            (.skip)
            (.exit 2)))
          (.seq (.block 3 (.seq (.join [] [(.normal, [(0, .keep), (3, .keep), (4, .keep), (5, .keep), (6, .keep), (7, .keep), (90, (.val false false ⟨false, .bool⟩))])] (.drw [⟨0, none, (some 69), .mov (.t 0)⟩,
                 ⟨1, none, (some 70), .mov (.t 4)⟩,
                 ⟨2, none, (some 71), .mov (.t 7)⟩,
                 ⟨3, none, (some 72), .bin .add (.t 70) (.t 71)⟩,
                 ⟨4, none, (some 73), .iadr 3 (.t 69) (.t 72)⟩,
                 ⟨5, none, (some 74), .fadr 0 (.t 73)⟩,
                 ⟨6, none, (some 75), .load none (.t 74)⟩,
                 ⟨7, none, (some 76), .fadr 0 (.t 6)⟩,
                 ⟨8, none, (some 77), .load none (.t 76)⟩,
                 ⟨9, none, (some 78), .bin .neq (.t 75) (.t 77)⟩,
                 ⟨10, none, (some 79), .mov (.t 78)⟩,
                 ⟨11, (some (79, false)), (some 80), .mov (.t 0)⟩,
                 ⟨12, (some (79, false)), (some 81), .mov (.t 4)⟩,
                 ⟨13, (some (79, false)), (some 82), .mov (.t 7)⟩,
                 ⟨14, (some (79, false)), (some 83), .bin .add (.t 81) (.t 82)⟩,
                 ⟨15, (some (79, false)), (some 84), .iadr 3 (.t 80) (.t 83)⟩,
                 ⟨16, (some (79, false)), (some 85), .fadr 1 (.t 84)⟩,
                 ⟨17, (some (79, false)), (some 86), .load none (.t 85)⟩,
                 ⟨18, (some (79, false)), (some 87), .fadr 1 (.t 6)⟩,
                 ⟨19, (some (79, false)), (some 88), .load none (.t 87)⟩,
                 ⟨20, (some (79, false)), (some 89), .bin .neq (.t 86) (.t 88)⟩,
                 ⟨21, none, (some 90), .pick (.t 79) (.c (.bool true)) (.t 89)⟩] [] [0, 3, 4, 5, 6, 7, 90]))
            (.cond (.t 90)
             (.seq (.reg [⟨0, none, (some 2), .mov (.c (.bool false))⟩] [2])
              (.ret))
             (.skip))))
          (.reg [⟨0, none, (some 67), .mov (.t 7)⟩,
             ⟨1, none, (some 68), .bin .add (.t 67) (.c (.int .i64 1))⟩,
             ⟨2, none, (some 7), .mov (.t 68)⟩] [0, 3, 4, 5, 6, 7]))))))
       (.reg [⟨0, none, (some 91), .mov (.t 4)⟩,
          ⟨1, none, (some 92), .fadr 2 (.t 6)⟩,
          ⟨2, none, (some 93), .load none (.t 92)⟩,
          ⟨3, none, (some 94), .bin .add (.t 91) (.t 93)⟩,
          ⟨4, none, (some 4), .mov (.t 94)⟩] [0, 3, 4, 5])))))
     (.reg [⟨0, none, (some 19), .mov (.t 5)⟩,
        ⟨1, none, (some 20), .bin .add (.t 19) (.c (.int .i64 1))⟩,
        ⟨2, none, (some 5), .mov (.t 20)⟩] [0, 3, 4, 5]))))))
  (.seq (.reg [⟨0, none, (some 95), .mov (.t 4)⟩,
      ⟨1, none, (some 96), .mov (.t 0)⟩,
      ⟨2, none, (some 97), .len false (.t 96)⟩,
      ⟨3, none, (some 98), .bin .eql (.t 95) (.t 97)⟩,
      ⟨4, none, (some 2), .mov (.t 98)⟩] [2])
  (.ret))))))),
  []⟩

def F_batonlaw42_AuditParts (x : List ((Int) × (Int) × Int)) : Option (Bool) :=
  ((F_batonlaw42_awake ()).bind fun r203 => (bif (!r203) then (some false) else (bif (decide ((((x.length) : Nat) : Int) > 100)) then (some true) else ((F_audit_Parts x).bind fun r204 => ((iterL (S := (Int) × Int) (X := (Bool) ⊕ ((Int) × (Int) × Bool)) (fun s205 => (bif (decide (s205.2 < (((r204.length) : Nat) : Int))) then (bif decide (0 ≤ s205.2) then ((r204[(s205.2).toNat]?).bind fun e206 => ((bif ((decide (e206.2.2 < 1)) == false) then (bif ((decide (e206.2.2 > (IntKind.wrap .i64 ((((x.length) : Nat) : Int) - s205.1)))) == false) then (bif ((decide (s205.2 > 0)) == true) then (bif decide (0 ≤ (IntKind.wrap .i64 (s205.2 - 1))) then ((r204[((IntKind.wrap .i64 (s205.2 - 1))).toNat]?).bind fun e207 => (bif ((e207.1 == e206.1) == true) then (bif decide (0 ≤ (IntKind.wrap .i64 (s205.2 - 1))) then ((r204[((IntKind.wrap .i64 (s205.2 - 1))).toNat]?).bind fun e208 => (some (e208.2.1 == e206.2.1))) else none) else (some false))) else none) else (some false)) else (some true)) else (some true)).bind fun v209 => (bif v209 then (some (Sum.inr (Sum.inl false))) else ((iterL (S := Int) (X := (Bool) ⊕ ((Int) × Bool)) (fun s210 => (bif (decide (s210 < e206.2.2)) then ((bif decide (0 ≤ (IntKind.wrap .i64 (s205.1 + s210))) then ((x[((IntKind.wrap .i64 (s205.1 + s210))).toNat]?).bind fun e211 => (bif ((e211.1 != e206.1) == false) then (bif decide (0 ≤ (IntKind.wrap .i64 (s205.1 + s210))) then ((x[((IntKind.wrap .i64 (s205.1 + s210))).toNat]?).bind fun e212 => (some (e212.2.1 != e206.2.1))) else none) else (some true))) else none).bind fun v213 => (bif v213 then (some (Sum.inr (Sum.inl false))) else (some (Sum.inl (IntKind.wrap .i64 (s210 + 1)))))) else (some (Sum.inr (Sum.inr (s210, (decide (s210 < e206.2.2)))))))) 0).bind fun w215 => match w215 with | Sum.inl v214 => (some (Sum.inr (Sum.inl v214))) | Sum.inr w215 => (fun v216 => (some (Sum.inl ((IntKind.wrap .i64 (s205.1 + e206.2.2)), (IntKind.wrap .i64 (s205.2 + 1)))))) w215)))) else none) else (some (Sum.inr (Sum.inr (s205.1, s205.2, (decide (s205.2 < (((r204.length) : Nat) : Int))))))))) (0, 0)).bind fun w218 => match w218 with | Sum.inl v217 => (some v217) | Sum.inr w218 => (fun v219 => (some (v219.1 == (((x.length) : Nat) : Int)))) w218)))))

def prog : Nat → Option SFn
  | 22 => some A_audit_Parts.fn
  | 20 => some A_audit_Of.fn
  | 15 => some A_audit_Check.fn
  | 14 => some A_batonlaw42_awake.fn
  | 17 => some A_batonlaw33_Ref.fn
  | 18 => some A_batonlaw42_ref.fn
  | 21 => some A_batonref42_Of.fn
  | 16 => some A_batonref42_Check.fn
  | 19 => some A_batonref01_Same.fn
  | 3 => some A_batonlaw42_AuditChecks.fn
  | 4 => some A_batonlaw42_AuditParts.fn
  | _ => none
def fns : List (Nat × AFn) := []
theorem fnsOk : FnsOk prog fns := trivial
def c_audit_Parts : Ct := ⟨[⟨false, (.lst (.pair (.int .i64) (.pair (.int .i64) (.int .u8))))⟩], [⟨false, (.lst (.pair (.int .i64) (.pair (.int .i64) (.int .i64))))⟩], true, F_audit_Parts⟩
def c_audit_Of : Ct := ⟨[⟨false, (.lst (.pair (.int .i64) (.pair (.int .i64) (.lst (.int .u8)))))⟩, ⟨false, (.int .i64)⟩, ⟨false, (.int .i64)⟩], [⟨false, (.lst (.int .u8))⟩], true, F_audit_Of⟩
def c_audit_Check : Ct := ⟨[⟨false, (.lst (.pair (.int .i64) (.pair (.int .i64) (.int .u8))))⟩, ⟨false, (.lst (.pair (.int .i64) (.pair (.int .i64) (.lst (.int .u8)))))⟩], [⟨false, (.int .i64)⟩, ⟨false, (.int .i64)⟩], true, F_audit_Check⟩
def c_batonlaw42_awake : Ct := ⟨[], [⟨false, .bool⟩], true, F_batonlaw42_awake⟩
def c_batonlaw33_Ref : Ct := ⟨[⟨false, (.lst (.pair (.int .i64) (.pair (.int .i64) (.int .u8))))⟩], [⟨false, (.lst (.pair (.int .i64) (.pair (.int .i64) (.int .u8))))⟩], true, F_batonlaw33_Ref⟩
def c_batonlaw42_ref : Ct := ⟨[⟨false, (.lst (.pair (.int .i64) (.pair (.int .i64) (.lst (.int .u8)))))⟩], [⟨false, (.lst (.pair (.int .i64) (.pair (.int .i64) (.lst (.int .u8)))))⟩], false, F_batonlaw42_ref⟩
def c_batonref42_Of : Ct := ⟨[⟨false, (.lst (.pair (.int .i64) (.pair (.int .i64) (.lst (.int .u8)))))⟩, ⟨false, (.int .i64)⟩, ⟨false, (.int .i64)⟩], [⟨false, (.lst (.int .u8))⟩], true, F_batonref42_Of⟩
def c_batonref42_Check : Ct := ⟨[⟨false, (.lst (.pair (.int .i64) (.pair (.int .i64) (.int .u8))))⟩, ⟨false, (.lst (.pair (.int .i64) (.pair (.int .i64) (.lst (.int .u8)))))⟩], [⟨false, (.int .i64)⟩, ⟨false, (.int .i64)⟩], true, F_batonref42_Check⟩
def c_batonref01_Same : Ct := ⟨[⟨false, (.lst (.int .u8))⟩, ⟨false, (.lst (.int .u8))⟩], [⟨false, .bool⟩], true, F_batonref01_Same⟩
def c_batonlaw42_AuditChecks : Ct := ⟨[⟨false, (.lst (.pair (.int .i64) (.pair (.int .i64) (.int .u8))))⟩, ⟨false, (.lst (.pair (.int .i64) (.pair (.int .i64) (.lst (.int .u8)))))⟩, ⟨true, (.arr 2 (.int .i64))⟩], [⟨false, .bool⟩], true, F_batonlaw42_AuditChecks⟩
def c_batonlaw42_AuditParts : Ct := ⟨[⟨false, (.lst (.pair (.int .i64) (.pair (.int .i64) (.int .u8))))⟩], [⟨false, .bool⟩], true, F_batonlaw42_AuditParts⟩
def t_audit_Parts : List (Nat × Ct) := []
theorem ok_audit_Parts : CtOk prog opn 22 c_audit_Parts := runF_ok (cs := tabOf t_audit_Parts) (fns := tabOf fns) (n := 10) (tab_ok trivial) (fns_ok fnsOk) (af := A_audit_Parts) rfl (by decide) (fun x r h => (show runF (tabOf t_audit_Parts) opn (fun _ _ => iterL) (tabOf fns) 10 A_audit_Parts c_audit_Parts.args c_audit_Parts.res c_audit_Parts.fresh x = F_audit_Parts x by kernel_rfl).trans h)
def t_audit_Of : List (Nat × Ct) := []
theorem ok_audit_Of : CtOk prog opn 20 c_audit_Of := runF_ok (cs := tabOf t_audit_Of) (fns := tabOf fns) (n := 10) (tab_ok trivial) (fns_ok fnsOk) (af := A_audit_Of) rfl (by decide) (fun x r h => (show runF (tabOf t_audit_Of) opn (fun _ _ => iterL) (tabOf fns) 10 A_audit_Of c_audit_Of.args c_audit_Of.res c_audit_Of.fresh x = F_audit_Of x by kernel_rfl).trans h)
def t_audit_Check : List (Nat × Ct) := [(20, c_audit_Of), (22, c_audit_Parts)]
theorem ok_audit_Check : CtOk prog opn 15 c_audit_Check := runF_ok (cs := tabOf t_audit_Check) (fns := tabOf fns) (n := 10) (tab_ok ⟨ok_audit_Of, ⟨ok_audit_Parts, trivial⟩⟩) (fns_ok fnsOk) (af := A_audit_Check) rfl (by decide) (fun x r h => (show runF (tabOf t_audit_Check) opn (fun _ _ => iterL) (tabOf fns) 10 A_audit_Check c_audit_Check.args c_audit_Check.res c_audit_Check.fresh x = F_audit_Check x by kernel_rfl).trans h)
theorem ok_batonlaw42_awake : CtOk prog opn 14 c_batonlaw42_awake := evalCt 300 (by decide +kernel)
def t_batonlaw33_Ref : List (Nat × Ct) := []
theorem ok_batonlaw33_Ref : CtOk prog opn 17 c_batonlaw33_Ref := runF_ok (cs := tabOf t_batonlaw33_Ref) (fns := tabOf fns) (n := 10) (tab_ok trivial) (fns_ok fnsOk) (af := A_batonlaw33_Ref) rfl (by decide) (fun x r h => (show runF (tabOf t_batonlaw33_Ref) opn (fun _ _ => iterL) (tabOf fns) 10 A_batonlaw33_Ref c_batonlaw33_Ref.args c_batonlaw33_Ref.res c_batonlaw33_Ref.fresh x = F_batonlaw33_Ref x by kernel_rfl).trans h)
def t_batonlaw42_ref : List (Nat × Ct) := []
theorem ok_batonlaw42_ref : CtOk prog opn 18 c_batonlaw42_ref := runF_ok (cs := tabOf t_batonlaw42_ref) (fns := tabOf fns) (n := 10) (tab_ok trivial) (fns_ok fnsOk) (af := A_batonlaw42_ref) rfl (by decide) (fun x r h => (show runF (tabOf t_batonlaw42_ref) opn (fun _ _ => iterL) (tabOf fns) 10 A_batonlaw42_ref c_batonlaw42_ref.args c_batonlaw42_ref.res c_batonlaw42_ref.fresh x = F_batonlaw42_ref x by kernel_rfl).trans h)
def t_batonref42_Of : List (Nat × Ct) := []
theorem ok_batonref42_Of : CtOk prog opn 21 c_batonref42_Of := runF_ok (cs := tabOf t_batonref42_Of) (fns := tabOf fns) (n := 10) (tab_ok trivial) (fns_ok fnsOk) (af := A_batonref42_Of) rfl (by decide) (fun x r h => (show runF (tabOf t_batonref42_Of) opn (fun _ _ => iterL) (tabOf fns) 10 A_batonref42_Of c_batonref42_Of.args c_batonref42_Of.res c_batonref42_Of.fresh x = F_batonref42_Of x by kernel_rfl).trans h)
def t_batonref42_Check : List (Nat × Ct) := [(21, c_batonref42_Of)]
theorem ok_batonref42_Check : CtOk prog opn 16 c_batonref42_Check := runF_ok (cs := tabOf t_batonref42_Check) (fns := tabOf fns) (n := 10) (tab_ok ⟨ok_batonref42_Of, trivial⟩) (fns_ok fnsOk) (af := A_batonref42_Check) rfl (by decide) (fun x r h => (show runF (tabOf t_batonref42_Check) opn (fun _ _ => iterL) (tabOf fns) 10 A_batonref42_Check c_batonref42_Check.args c_batonref42_Check.res c_batonref42_Check.fresh x = F_batonref42_Check x by kernel_rfl).trans h)
def t_batonref01_Same : List (Nat × Ct) := []
theorem ok_batonref01_Same : CtOk prog opn 19 c_batonref01_Same := runF_ok (cs := tabOf t_batonref01_Same) (fns := tabOf fns) (n := 10) (tab_ok trivial) (fns_ok fnsOk) (af := A_batonref01_Same) rfl (by decide) (fun x r h => (show runF (tabOf t_batonref01_Same) opn (fun _ _ => iterL) (tabOf fns) 10 A_batonref01_Same c_batonref01_Same.args c_batonref01_Same.res c_batonref01_Same.fresh x = F_batonref01_Same x by kernel_rfl).trans h)
def t_batonlaw42_AuditChecks : List (Nat × Ct) := [(19, c_batonref01_Same), (21, c_batonref42_Of), (20, c_audit_Of), (16, c_batonref42_Check), (18, c_batonlaw42_ref), (17, c_batonlaw33_Ref), (15, c_audit_Check), (14, c_batonlaw42_awake)]
theorem ok_batonlaw42_AuditChecks : CtOk prog opn 3 c_batonlaw42_AuditChecks := runF_ok (cs := tabOf t_batonlaw42_AuditChecks) (fns := tabOf fns) (n := 10) (tab_ok ⟨ok_batonref01_Same, ⟨ok_batonref42_Of, ⟨ok_audit_Of, ⟨ok_batonref42_Check, ⟨ok_batonlaw42_ref, ⟨ok_batonlaw33_Ref, ⟨ok_audit_Check, ⟨ok_batonlaw42_awake, trivial⟩⟩⟩⟩⟩⟩⟩⟩) (fns_ok fnsOk) (af := A_batonlaw42_AuditChecks) rfl (by decide) (fun x r h => (show runF (tabOf t_batonlaw42_AuditChecks) opn (fun _ _ => iterL) (tabOf fns) 10 A_batonlaw42_AuditChecks c_batonlaw42_AuditChecks.args c_batonlaw42_AuditChecks.res c_batonlaw42_AuditChecks.fresh x = F_batonlaw42_AuditChecks x by kernel_rfl).trans h)
def t_batonlaw42_AuditParts : List (Nat × Ct) := [(22, c_audit_Parts), (14, c_batonlaw42_awake)]
theorem ok_batonlaw42_AuditParts : CtOk prog opn 4 c_batonlaw42_AuditParts := runF_ok (cs := tabOf t_batonlaw42_AuditParts) (fns := tabOf fns) (n := 10) (tab_ok ⟨ok_audit_Parts, ⟨ok_batonlaw42_awake, trivial⟩⟩) (fns_ok fnsOk) (af := A_batonlaw42_AuditParts) rfl (by decide) (fun x r h => (show runF (tabOf t_batonlaw42_AuditParts) opn (fun _ _ => iterL) (tabOf fns) 10 A_batonlaw42_AuditParts c_batonlaw42_AuditParts.args c_batonlaw42_AuditParts.res c_batonlaw42_AuditParts.fresh x = F_batonlaw42_AuditParts x by kernel_rfl).trans h)
theorem link22 : FLink Try.prog opn 22 A_audit_Parts.fn := chkFunc_ok Try.func22 (by decide +kernel)
theorem link20 : FLink Try.prog opn 20 A_audit_Of.fn := chkFunc_ok Try.func20 (by decide +kernel)
theorem link15 : FLink Try.prog opn 15 A_audit_Check.fn := chkFunc_ok Try.func15 (by decide +kernel)
theorem link14 : FLink Try.prog opn 14 A_batonlaw42_awake.fn := chkFunc_ok Try.func14 (by decide +kernel)
theorem link17 : FLink Try.prog opn 17 A_batonlaw33_Ref.fn := chkFunc_ok Try.func17 (by decide +kernel)
theorem link18 : FLink Try.prog opn 18 A_batonlaw42_ref.fn := chkFunc_ok Try.func18 (by decide +kernel)
theorem link21 : FLink Try.prog opn 21 A_batonref42_Of.fn := chkFunc_ok Try.func21 (by decide +kernel)
theorem link16 : FLink Try.prog opn 16 A_batonref42_Check.fn := chkFunc_ok Try.func16 (by decide +kernel)
theorem link19 : FLink Try.prog opn 19 A_batonref01_Same.fn := chkFunc_ok Try.func19 (by decide +kernel)
theorem link3 : FLink Try.prog opn 3 A_batonlaw42_AuditChecks.fn := chkFunc_ok Try.func3 (by decide +kernel)
theorem link4 : FLink Try.prog opn 4 A_batonlaw42_AuditParts.fn := chkFunc_ok Try.func4 (by decide +kernel)
theorem links : ∀ f sf, prog f = some sf → FLink Try.prog opn f sf := by
  intro f sf h
  unfold prog at h
  split at h <;> first | (injection h with h; subst h) | (cases h; done)
  all_goals first
    | exact link22
    | exact link20
    | exact link15
    | exact link14
    | exact link17
    | exact link18
    | exact link21
    | exact link16
    | exact link19
    | exact link3
    | exact link4
end
end Go.Ideal.Seat
