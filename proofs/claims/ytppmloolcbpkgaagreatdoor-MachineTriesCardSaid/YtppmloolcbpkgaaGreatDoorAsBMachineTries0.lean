import Derived.Test.YtppmloolcbpkgaaGreatDoorAsRMachineTries
/-
  AS: the law MachineTries: the run up to its loop, part 0.
-/
namespace Go.As.Try.MachineTries
open Go hiding Stat
open Go.As Go.Proofs Go.RowKit Go.As.Try
set_option maxRecDepth 100000
theorem begins0 : go g (tab1 path cs) 1000 [] (bodyOf Tryz.f5) [] ⟨initSlots args 0 .nil, Hp.zero, pcOf 0⟩ = true := by kernel_rfl
theorem begins1 : go g (tab1 path cs) 1000 [] (bodyOf Tryz.f5) [] ⟨initSlots args 0 .nil, Hp.zero, pcOf 1⟩ = true := by kernel_rfl
theorem begins2 : go g (tab1 path cs) 1000 [] (bodyOf Tryz.f5) [] ⟨initSlots args 0 .nil, Hp.zero, pcOf 2⟩ = true := by kernel_rfl
theorem begins3 : go g (tab1 path cs) 1000 [] (bodyOf Tryz.f5) [] ⟨initSlots args 0 .nil, Hp.zero, pcOf 3⟩ = true := by kernel_rfl
theorem begins4 : go g (tab1 path cs) 1000 [] (bodyOf Tryz.f5) [] ⟨initSlots args 0 .nil, Hp.zero, pcOf 4⟩ = true := by kernel_rfl
theorem begins5 : go g (tab1 path cs) 1000 [] (bodyOf Tryz.f5) [] ⟨initSlots args 0 .nil, Hp.zero, pcOf 5⟩ = true := by kernel_rfl
theorem begins6 : go g (tab1 path cs) 1000 [] (bodyOf Tryz.f5) [] ⟨initSlots args 0 .nil, Hp.zero, pcOf 6⟩ = true := by kernel_rfl
theorem begins7 : go g (tab1 path cs) 1000 [] (bodyOf Tryz.f5) [] ⟨initSlots args 0 .nil, Hp.zero, pcOf 7⟩ = true := by kernel_rfl
theorem begins8 : go g (tab1 path cs) 1000 [] (bodyOf Tryz.f5) [] ⟨initSlots args 0 .nil, Hp.zero, pcOf 8⟩ = true := by kernel_rfl
theorem begins9 : go g (tab1 path cs) 1000 [] (bodyOf Tryz.f5) [] ⟨initSlots args 0 .nil, Hp.zero, pcOf 9⟩ = true := by kernel_rfl
theorem begins10 : go g (tab1 path cs) 1000 [] (bodyOf Tryz.f5) [] ⟨initSlots args 0 .nil, Hp.zero, pcOf 10⟩ = true := by kernel_rfl
theorem begins11 : go g (tab1 path cs) 1000 [] (bodyOf Tryz.f5) [] ⟨initSlots args 0 .nil, Hp.zero, pcOf 11⟩ = true := by kernel_rfl
theorem begins12 : go g (tab1 path cs) 1000 [] (bodyOf Tryz.f5) [] ⟨initSlots args 0 .nil, Hp.zero, pcOf 12⟩ = true := by kernel_rfl
theorem begins13 : go g (tab1 path cs) 1000 [] (bodyOf Tryz.f5) [] ⟨initSlots args 0 .nil, Hp.zero, pcOf 13⟩ = true := by kernel_rfl
theorem begins14 : go g (tab1 path cs) 1000 [] (bodyOf Tryz.f5) [] ⟨initSlots args 0 .nil, Hp.zero, pcOf 14⟩ = true := by kernel_rfl
theorem begins15 : go g (tab1 path cs) 1000 [] (bodyOf Tryz.f5) [] ⟨initSlots args 0 .nil, Hp.zero, pcOf 15⟩ = true := by kernel_rfl
end Go.As.Try.MachineTries
